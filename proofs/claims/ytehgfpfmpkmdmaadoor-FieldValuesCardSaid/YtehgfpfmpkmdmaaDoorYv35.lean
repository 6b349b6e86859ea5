-- Print13, Gl, Gv (what this claim uses of them)
import Derived.Test.YtehgfpfmpkmdmaaDoorYv22
import Derived.Lib.SliceRun
import Derived.Laws.MakeOwn
namespace Go.Proofs.YtehgfpfmpkmdmaaDoor.Print
open Go.RowKit Go.Proofs.YtehgfpfmpkmdmaaDoorW.PrintWords Go.Proofs.YtehgfpfmpkmdmaaDoorW.PrintLast Go.Proofs.YtehgfpfmpkmdmaaDoorW.PrintMore
attribute [local go_sem] max2_int min2_int max_two min_two max_three min_three max_four min_four   -- for this text's walks alone
set_option linter.unusedVariables false
set_option linter.unusedSimpArgs false
def letterbagkit_mark.f (a0 : Int) (a1 : Int) : Option (Int) := some (wrap64 ((wrap64 (1000003 * (wrap64 (a0 + 7)))) + a1))
set_option maxHeartbeats 8000000 in
set_option maxRecDepth 100000 in
theorem letterbagkit_mark.calls (a0 : Int) (a1 : Int) (r : Int) (w : World) (h : letterbagkit_mark.f a0 a1 = some r) :
    Calls Tryd.prog 56 #[.int .i64 a0, .int .i64 a1] w fun e w' => e = .returned (.int .i64 r) ∧ Drawn0 w w' := by
  have H : (some (wrap64 ((wrap64 (1000003 * (wrap64 (a0 + 7)))) + a1))) = some r := h
  clear h
  obtain rfl := Option.some.inj H
  go_enter Tryd.func56, Tryd.ntmps56
  go_wp2
  go_ret
  exact ⟨by first | rfl | (simp; done) | (simp [*]; done), by repeat (first | exact Drawn0.refl _ | apply Drawn0.step)⟩
def letterbagkit_markByte.f (a0 : Int) (a1 : Int) : Option (Int) := (letterbagkit_mark.f a0 a1).bind fun t206 => (some (((IntKind.u64.wrap ((IntKind.u64.wrap (t206)) * 11400714819323198485)) / 72057594037927936) % 256))
set_option maxHeartbeats 8000000 in
set_option maxRecDepth 100000 in
theorem letterbagkit_markByte.calls (a0 : Int) (a1 : Int) (r : Int) (w : World) (h : letterbagkit_markByte.f a0 a1 = some r) :
    Calls Tryd.prog 44 #[.int .i64 a0, .int .i64 a1] w fun e w' => e = .returned (.int .u8 r) ∧ Drawn0 w w' := by
  have H : ((letterbagkit_mark.f a0 a1).bind fun t206 => (some (((IntKind.u64.wrap ((IntKind.u64.wrap (t206)) * 11400714819323198485)) / 72057594037927936) % 256))) = some r := h
  clear h
  replace H := Option.bind_eq_some_iff.mp H
  obtain ⟨t206, A30, H⟩ := H
  replace H : (some (((IntKind.u64.wrap ((IntKind.u64.wrap (t206)) * 11400714819323198485)) / 72057594037927936) % 256)) = some r := H
  have A3 := Aside0.mk A30
  clear A30
  obtain rfl := Option.some.inj H
  go_enter Tryd.func44, Tryd.ntmps44
  go_wp2_with (first | ((with_reducible refine gate_callee (f := 56) rfl ?_); refine goesL_ (some 7) rfl rfl Tryd.func56 (by kernel_rfl) rfl #[.int .i64 a0, .int .i64 a1] rfl (by (try simp only [List.map_toArray, List.map_cons, List.map_nil]); first | done | rfl | (simp only [List.length_drop, List.length_take]; rfl)) ?_; (with_reducible refine (letterbagkit_mark.calls a0 a1 t206 _ A3.out).mono ?_); rintro e w' ⟨rfl, ⟨nd, rfl⟩⟩; refine ⟨_, rfl, ?_⟩))
  go_ret
  exact ⟨by first | rfl | (simp; done) | (simp [*]; done), by repeat (first | exact Drawn0.refl _ | apply Drawn0.step)⟩
end Go.Proofs.YtehgfpfmpkmdmaaDoor.Print

namespace Go.Proofs.YtehgfpfmpkmdmaaDoor.Print
open Go.RowKit Go.Proofs.YtehgfpfmpkmdmaaDoorW.PrintWords Go.Proofs.YtehgfpfmpkmdmaaDoorW.PrintLast Go.Proofs.YtehgfpfmpkmdmaaDoorW.PrintMore
set_option linter.unusedVariables false
set_option linter.unusedSimpArgs false
/-- The mark for place i, and the first j of them. -/
def mk1 (i : Int) : Int := (letterbagkit_markByte.f 1 i).getD 0
def mks (j : Nat) : List Int := (List.range j).map fun i : Nat => mk1 (i : Int)
theorem mk1_f (i : Int) : letterbagkit_markByte.f 1 i = some (mk1 i) := by
  unfold mk1
  simp [letterbagkit_markByte.f, letterbagkit_mark.f]
theorem mks_len (j : Nat) : (mks j).length = j := by simp [mks]
theorem mks_succ (j : Nat) : mks (j + 1) = mks j ++ [mk1 (j : Int)] := by simp [mks, List.range_succ]
/-- A slice whose row goes on behind its end with twelve marks. -/
def Lent (w : World) (v : Value) (l : List Int) : Prop := ∃ A c, v = .slice A l.length c ∧ (l ++ mks 12).length ≤ c ∧ Kd.C (Kd.int .u8) w A (l ++ mks 12).length (l ++ mks 12)
theorem Lent.below {w w1 : World} {v : Value} {l : List Int} (h : Lent w v l) (hb : Below w.heap.size w w1) : Lent w1 v l := by
  obtain ⟨A, c, rfl, h1, h2⟩ := h
  exact ⟨A, c, rfl, h1, Kd.C_below h2 hb⟩
/-- The same block, a shorter slice of it. -/
theorem R_front {w : World} {base : Nat} {ok : Nat → Prop} {A : Option Addr} {n c : Nat} {xs : List Int} (h : Kd.R (Kd.int .u8) 5 w base ok (.slice A n c) xs) (m : Nat) (hm : m ≤ n) :
    Kd.R (Kd.int .u8) 5 w base ok (.slice A m c) (xs.take m) := Kd.R_take h (by have := (Kd.R_reads' h).1; omega)
set_option maxHeartbeats 4000000 in
set_option maxRecDepth 100000 in
theorem lent12 (A0 : Option Addr) (c0 : Nat) (l0 : List Int) (w : World) (hr0 : Kd.C (Kd.int .u8) w A0 l0.length l0) (hl : l0.length ≤ 1000) :
    Calls Tryd.prog 12 #[.slice A0 l0.length c0] w fun e w' => ∃ v0_ : Value, e = .returned (v0_) ∧ Kd.R (Kd.int .u8) 5 w' w.heap.size (fun _ => True) v0_ l0 ∧ Lent w' v0_ l0 ∧ Below w.heap.size w w' := by
  have HR0 := Aside0.mk hr0
  clear hr0
  have HB := Aside0.mk (Below.refl w.heap.size w)
  obtain ⟨cc, hcc⟩ : ∃ j_ : Int, (wrap64 ((l0.length : Int) + 12)) = j_ := ⟨_, rfl⟩
  have hccw : (IntKind.i64.wrap ((l0.length : Int) + 12)) = cc := (i64_w _).trans hcc
  have hcl : cc = (l0.length : Int) + 12 := by rw [← hcc]; simp only [wrap64]; omega
  have hmk : ∀ W : World, (Instr.makeSlice 22 (.int .i64 0) (.int .i64 cc)).run Tryd.prog W = .ok (.slice (some ⟨W.heap.size, 0, none⟩) 0 cc.toNat) (W.alloc (.cells (madeCells #[.int .u8 0] cc.toNat) 5)) := by
    intro W
    obtain ⟨i0, hi0, hz0, hsz0, hb0⟩ := info_parts info5
    have hr := run_make (P := Tryd.prog) W 22 5 i0 (.int .u8 0) Tryd.underlying22 hi0 hz0 .i64 .i64 0 cc (by omega) (by omega) (by rw [hb0]; omega) (by omega)
    rw [hsz0] at hr
    simpa [Value.cells] using hr
  have HL := Aside0.mk hl
  have HCL := Aside0.mk hcl
  have HCC := Aside0.mk hcc
  clear hl hcl hcc
  go_enter Tryd.func12, Tryd.ntmps12
  go_wp2_with (first | ((with_reducible refine gate_builtin (b := .append) (xs := #[.tmp 9, .tmp 10]) rfl ?_); at_builtin; refine Kd.R_append_rows (Kd.int .u8) (w0 := w) w.heap.size rfl (.tmp 9) (.tmp 10) 22 5 (.int .u8 0) 1 rfl Tryd.underlying22 info5 rfl (by decide) (by omega) (.slice (some ⟨w.heap.size, 0, none⟩) 0 cc.toNat) ([] : List Int) l0 _ _ _ (fun _ => True) (fun _ => False) rfl rfl ?aO ?aR (fun _ _ h => h) (fun _ h => h.elim) ?aF ?aB ?aS ?aL ?_; (case aR => exact Kd.C_alloc HR0.out _); (case aB => exact below_alloc HB.out _); (case aF => exact (fun _ _ => trivial)); (case aO => exact ⟨fun _ _ => trivial, [], World.ownsRow_made w _ cc.toNat (Nat.le_refl _) (by have := HL.out; have := HCL.out; simp only [maxLen]; omega) (by simp [madeCells]; exact (Nat.mul_one _).symm), Reps.none _ _⟩); (case aS => simp); (case aL => have := HL.out; simp only [List.length_nil]; omega); intro v220 w3 ho hb hg hat; have n0_ := Aside0.mk (hb); have n1_ := Aside0.mk (ho); clear ho hb hg hat))
  go_loopg [3, 4] 12 (fun kq v3 v4 w' => ∃ (j : Nat) (x3 : List Int), v4 = .int .i64 (j : Int) ∧ Aside0 (j + kq = 12) ∧ Aside0 (x3 = l0 ++ mks j) ∧ Aside0 (Kd.R (Kd.int .u8) 5 w' w.heap.size (fun _ => True) v3 x3) ∧ Aside0 (Below w.heap.size w w'))
  case atStart => exact ⟨0, l0, rfl, ⟨by omega⟩, ⟨by simp [mks]⟩, ⟨by simpa using n1_.out⟩, n0_⟩
  case round =>
    clear n0_ n1_ HB
    obtain ⟨j, x3, rfl, HJ, HX, HO, HB⟩ := hrel
    by_cases c1 : (j : Int) < 12
    · have c1b0 : decide ((j : Int) < 12) = true := decide_eq_true c1
      have HJ12 := Aside0.mk c1
      clear c1
      obtain ⟨m, hm⟩ : ∃ m, mk1 (j : Int) = m := ⟨_, rfl⟩
      have AM := Aside0.mk ((mk1_f (j : Int)).trans (congrArg some hm))
      have HM := Aside0.mk hm
      clear hm
      have hx3 : x3.length < 140737488355328 := by
        have h1 := HX.out
        have h2 := HL.out
        have h3 := HJ.out
        rw [h1, List.length_append, mks_len]
        omega
      have LX := Aside0.mk hx3
      clear hx3
      obtain ⟨y3, hy3⟩ : ∃ y_ : List Int, y_ = x3 ++ [m] := ⟨_, rfl⟩
      have Ny := Aside0.mk hy3
      clear hy3
      go_wp2_with (first | ((with_reducible refine gate_callee (f := 44) rfl ?_); refine goesL_ (some 18) rfl rfl Tryd.func44 (by kernel_rfl) rfl #[.int .i64 1, .int .i64 (j : Int)] rfl (by (try simp only [List.map_toArray, List.map_cons, List.map_nil]); first | done | rfl) ?_; (with_reducible refine (letterbagkit_markByte.calls 1 (j : Int) m _ AM.out).mono ?_); rintro e w' ⟨rfl, ⟨nd, rfl⟩⟩; refine ⟨_, rfl, ?_⟩) | ((with_reducible refine gate_builtin (b := .append) (xs := #[.tmp 16, .tmp 19]) rfl ?_); at_builtin; refine Kd.R_append (Kd.int .u8) (w0 := w) w.heap.size rfl (.tmp 16) (.tmp 19) 22 5 (.int .u8 0) 1 rfl Tryd.underlying22 info5 rfl (by decide) (by omega) u3 x3 m [.int .u8 m] (fun _ => True) (fun _ => False) rfl rfl ?aP (fun _ hk => hk.elim) ?aF ?aO ?aB ?aS ?aL ?_; (case aP => exact rfl); (case aB => exact (by repeat (first | (with_reducible first | exact HB.out | apply below_alloc | apply pw_below_drewN | apply below_drew1) | exact HB.out))); (case aF => exact (fun _ _ => trivial)); (case aO => exact (by (with_reducible repeat (first | apply Kd.R_alloc | apply Kd.R_drewN | apply Kd.R_drew)); exact HO.out)); (case aS => exact (below_size (by repeat (first | (with_reducible first | exact HB.out | apply below_alloc | apply pw_below_drewN | apply below_drew1) | exact HB.out)))); (case aL => have := LX.out; omega); intro v174 w21 ho hb hg hat; rw [← Ny.out] at ho; have n1_ := Aside0.mk (hb); have n2_ := Aside0.mk (ho); clear HB HO; have HB := n1_; have HO := n2_; clear n1_ n2_; clear ho hb hg hat))
      go_roundg (11 - j)
      case measure => have := HJ.out; have := HJ12.out; omega
      case rel => exact ⟨j + 1, y3, by first | rfl | go_num | (simp [wrap64, IntKind.wrap_i64]; have := HJ12.out; omega), ⟨by have := HJ.out; have := HJ12.out; omega⟩, ⟨by rw [Ny.out, HX.out, ← HM.out, mks_succ, List.append_assoc]⟩, HO, HB⟩
    · have c1b0 : decide ((j : Int) < 12) = false := decide_eq_false c1
      have hj12 : j = 12 := by have := HJ.out; omega
      have HE := Aside0.mk (HX.out.trans (by rw [hj12]))
      clear hj12 c1
      have hr3 := HO.out
      obtain ⟨A3, c3, e3⟩ := Kd.R_slice hr3
      subst e3
      clear hr3
      have HLT := Aside0.mk (show (l0.length : Int) ≤ (x3.length : Int) by rw [HE.out, List.length_append]; omega)
      have hcut : ∀ W : World, (Instr.slice 22 (.slice A3 x3.length c3) none (some (.int .i64 (l0.length : Int))) none).run Tryd.prog W = .ok (.slice A3 l0.length c3) W := by
        intro W
        obtain ⟨i07, hi07, _, hsz7, _⟩ := info_parts info5
        have hel : Tryd.prog.elem 22 = 5 := by simp [Program.elem, Tryd.underlying22]
        have hu : Tryd.prog.underlying 22 = some (.slice (Tryd.prog.elem 22)) := by rw [hel]; exact Tryd.underlying22
        have ha : (A3.map fun x => x.add 0) = A3 := by cases A3 <;> simp [Addr.add]
        have h3 := (Kd.R_reads' HO.out).2.1
        have h4 := HLT.out
        rw [run_slice_h W 22 A3 x3.length c3 hu .i64 (l0.length : Int) (by omega) (by omega), hel]
        simp [sizeOf, typeInfo, hi07, hsz7, sliced, Result.andThen, ha]
      go_wp2
      go_ret
      refine ⟨_, rfl, ?_, ?_, HB.out⟩
      · have h5 := R_front HO.out l0.length (by have := HLT.out; omega)
        rwa [HE.out, List.take_left'] at h5
        rfl
      · refine ⟨A3, c3, rfl, ?_, ?_⟩
        · have h3 := (Kd.R_reads' HO.out).2.1
          rwa [HE.out] at h3
        · have h3 := (Kd.R_reads' HO.out).2.2
          rwa [HE.out] at h3
def letterbagkit_LentBytes.f (l0 : List Int) : Option (List Int) := if l0.length ≤ 1000 then some l0 else none
theorem letterbagkit_LentBytes.calls (A0 : Option Addr) (c0 : Nat) (l0 : List Int) (r : List Int) (w : World) (hr0 : Kd.C (Kd.int .u8) w A0 l0.length l0) (_hc0 : l0.length ≤ c0) (h : letterbagkit_LentBytes.f l0 = some r) :
    Calls Tryd.prog 12 #[.slice A0 l0.length c0] w fun e w' => ∃ v0_ : Value, e = .returned (v0_) ∧ Kd.R (Kd.int .u8) 5 w' w.heap.size (fun _ => True) v0_ r ∧ Lent w' v0_ r ∧ Below w.heap.size w w' := by
  unfold letterbagkit_LentBytes.f at h
  split at h
  · rename_i hl
    injection h with h
    subst h
    exact lent12 A0 c0 l0 w hr0 hl
  · cases h
end Go.Proofs.YtehgfpfmpkmdmaaDoor.Print

namespace Go.Proofs.YtehgfpfmpkmdmaaDoor.Print
open Go.RowKit Go.Proofs.YtehgfpfmpkmdmaaDoorW.PrintWords Go.Proofs.YtehgfpfmpkmdmaaDoorW.PrintLast Go.Proofs.YtehgfpfmpkmdmaaDoorW.PrintMore
attribute [local go_sem] max2_int min2_int max_two min_two max_three min_three max_four min_four   -- for this text's walks alone
set_option linter.unusedVariables false
set_option linter.unusedSimpArgs false
theorem mk2_f (i : Int) : letterbagkit_markByte.f 2 i = some ((letterbagkit_markByte.f 2 i).getD 0) := by
  simp [letterbagkit_markByte.f, letterbagkit_mark.f]
theorem grown_below {w w1 w2 : World} {row : Option Nat} (h : w.grownBy w1 row) (hb : Below w1.heap.size w1 w2) : w.grownBy w2 row :=
  ⟨hb.os.trans h.os, hb.tape.trans h.tape, hb.output.trans h.output, Nat.le_trans h.size hb.size, fun k hk hr => (hb.block k (Nat.lt_of_lt_of_le hk h.size)).trans (h.block k hk hr)⟩
/-- The state of the loop: the block's cells, and what else there was. -/
def Over (w : World) (g n : Nat) (wc : World) : Prop := (∃ cur : Array Value, wc.heap[g]? = some (.cells cur 5 (0, 0)) ∧ n ≤ cur.size) ∧ w.grownBy wc (some g)
theorem Over.below {w wc w2 : World} {g n : Nat} (h : Over w g n wc) (hb : Below wc.heap.size wc w2) : Over w g n w2 := by
  obtain ⟨⟨cur, h1, h2⟩, h3⟩ := h
  exact ⟨⟨cur, (hb.block g (Array.getElem?_eq_some_iff.1 h1).1).trans h1, h2⟩, grown_below h3 hb⟩
theorem Over.cell {w wc : World} {g n : Nat} (h : Over w g n wc) (i : Nat) (hi : i < n) : ∃ u, wc.cell? ⟨g, i, none⟩ = some u := by
  obtain ⟨⟨cur, h1, h2⟩, h3⟩ := h
  exact ⟨cur[i]'(by omega), by simp [World.cell?, h1, Array.getElem?_eq_getElem (show i < cur.size by omega)]⟩
theorem Over.at_ {w wc : World} {g n : Nat} (h : Over w g n wc) (i : Nat) (hi : i < n) : (∃ u, wc.cell? ⟨g, i, none⟩ = some u) ∧ wc.frozen? ⟨g, i, none⟩ = false := by
  refine ⟨Over.cell h i hi, ?_⟩
  obtain ⟨⟨cur, h1, h2⟩, h3⟩ := h
  exact blk_frozen h1 i
theorem Over.set {w wc : World} {g n : Nat} (h : Over w g n wc) (i : Nat) (u : Value) : Over w g n (wc.setCell ⟨g, i, none⟩ u) := by
  obtain ⟨⟨cur, h1, h2⟩, h3⟩ := h
  have hb : Below g wc (wc.setCell ⟨g, i, none⟩ u) := (Below.refl g wc).setCell (Nat.le_refl g) _
  refine ⟨⟨cur.setIfInBounds i u, blk_set h1 i u, by simpa using h2⟩, hb.os.trans h3.os, hb.tape.trans h3.tape, hb.output.trans h3.output, Nat.le_trans h3.size hb.size, fun k hk hr => ?_⟩
  rw [Below.heap_setCell wc ⟨g, i, none⟩ u k (fun e => hr (by rw [e]))]
  exact h3.block k hk hr
set_option maxHeartbeats 4000000 in
set_option maxRecDepth 100000 in
theorem over19a (g : Nat) (c0 : Nat) (l0 : List Int) (w : World) (n : Nat) (hn : l0.length + 12 = n) (hO : Over w g n w) (hl : l0.length ≤ 1000) (hc : n < c0) :
    Calls Tryd.prog 19 #[.slice (some ⟨g, 0, none⟩) l0.length c0] w fun e w' => e = .returned (.tuple #[]) ∧ w.grownBy w' (some g) := by
  have HO := Aside0.mk hO
  clear hO
  have hjjw : (IntKind.i64.wrap ((l0.length : Int) + 12)) = (n : Int) := (i64_w _).trans (by simp only [wrap64]; omega)
  have hc1 : (n : Int) < (c0 : Int) := by omega
  have hc2 : n ≤ c0 := by omega
  have hc3 : (n : Int) ≤ (c0 : Int) := by omega
  have HL := Aside0.mk hl
  have HN := Aside0.mk hn
  clear hl hn
  go_enter Tryd.func19, Tryd.ntmps19
  go_wp2
  go_loopg [3] n (fun kq v3 w' => ∃ j : Nat, v3 = .int .i64 (j : Int) ∧ Aside0 (j + kq = n) ∧ Aside0 (Over w g n w'))
  case atStart => exact ⟨0, rfl, ⟨by omega⟩, HO⟩
  case round =>
    clear HO
    obtain ⟨j, rfl, HJ, HO⟩ := hrel
    by_cases c1 : j < n
    · have c1b0 : decide ((j : Int) < (n : Int)) = true := decide_eq_true (by omega)
      have c1b1 : decide (j < n) = true := decide_eq_true c1
      have HJ12 := Aside0.mk c1
      obtain ⟨m, hm⟩ : ∃ m, (letterbagkit_markByte.f 2 (j : Int)).getD 0 = m := ⟨_, rfl⟩
      have AM := Aside0.mk ((mk2_f (j : Int)).trans (congrArg some hm))
      have HM := Aside0.mk hm
      clear hm
      obtain ⟨⟨old, hold⟩, hfr⟩ := Over.at_ HO.out j c1
      go_wp2_with (first | ((with_reducible refine gate_callee (f := 44) rfl ?_); refine goesL_ (some 21) rfl rfl Tryd.func44 (by kernel_rfl) rfl #[.int .i64 2, .int .i64 (j : Int)] rfl (by (try simp only [List.map_toArray, List.map_cons, List.map_nil]); first | done | rfl) ?_; (with_reducible refine (letterbagkit_markByte.calls 2 (j : Int) m _ AM.out).mono ?_); rintro e w' ⟨rfl, ⟨nd, rfl⟩⟩; refine ⟨_, rfl, ?_⟩))
      go_roundg (n - j - 1)
      case measure => have := HJ.out; have := HJ12.out; omega
      case rel => exact ⟨j + 1, by first | rfl | go_num | (simp [wrap64, IntKind.wrap_i64]; have := HJ12.out; have := HN.out; have := HL.out; omega), ⟨by have := HJ.out; have := HJ12.out; omega⟩, ⟨Over.set (Over.below HO.out (pw_below_drewN (Below.refl _ _) nd)) j _⟩⟩
    · have c1b0 : decide ((j : Int) < (n : Int)) = false := decide_eq_false (by omega)
      have c1b1 : decide (j < n) = false := decide_eq_false c1
      go_wp2
      go_end0
      exact ⟨rfl, HO.out.2⟩
set_option maxHeartbeats 4000000 in
set_option maxRecDepth 100000 in
theorem over19b (g : Nat) (c0 : Nat) (l0 : List Int) (w : World) (n : Nat) (hn : l0.length + 12 = n) (hO : Over w g n w) (hl : l0.length ≤ 1000) :
    Calls Tryd.prog 19 #[.slice (some ⟨g, 0, none⟩) l0.length n] w fun e w' => e = .returned (.tuple #[]) ∧ w.grownBy w' (some g) := by
  have HO := Aside0.mk hO
  clear hO
  have hjjw : (IntKind.i64.wrap ((l0.length : Int) + 12)) = (n : Int) := (i64_w _).trans (by simp only [wrap64]; omega)
  have HL := Aside0.mk hl
  have HN := Aside0.mk hn
  clear hl hn
  go_enter Tryd.func19, Tryd.ntmps19
  go_wp2
  go_loopg [3] n (fun kq v3 w' => ∃ j : Nat, v3 = .int .i64 (j : Int) ∧ Aside0 (j + kq = n) ∧ Aside0 (Over w g n w'))
  case atStart => exact ⟨0, rfl, ⟨by omega⟩, HO⟩
  case round =>
    clear HO
    obtain ⟨j, rfl, HJ, HO⟩ := hrel
    by_cases c1 : j < n
    · have c1b0 : decide ((j : Int) < (n : Int)) = true := decide_eq_true (by omega)
      have c1b1 : decide (j < n) = true := decide_eq_true c1
      have HJ12 := Aside0.mk c1
      obtain ⟨m, hm⟩ : ∃ m, (letterbagkit_markByte.f 2 (j : Int)).getD 0 = m := ⟨_, rfl⟩
      have AM := Aside0.mk ((mk2_f (j : Int)).trans (congrArg some hm))
      have HM := Aside0.mk hm
      clear hm
      obtain ⟨⟨old, hold⟩, hfr⟩ := Over.at_ HO.out j c1
      go_wp2_with (first | ((with_reducible refine gate_callee (f := 44) rfl ?_); refine goesL_ (some 21) rfl rfl Tryd.func44 (by kernel_rfl) rfl #[.int .i64 2, .int .i64 (j : Int)] rfl (by (try simp only [List.map_toArray, List.map_cons, List.map_nil]); first | done | rfl) ?_; (with_reducible refine (letterbagkit_markByte.calls 2 (j : Int) m _ AM.out).mono ?_); rintro e w' ⟨rfl, ⟨nd, rfl⟩⟩; refine ⟨_, rfl, ?_⟩))
      go_roundg (n - j - 1)
      case measure => have := HJ.out; have := HJ12.out; omega
      case rel => exact ⟨j + 1, by first | rfl | go_num | (simp [wrap64, IntKind.wrap_i64]; have := HJ12.out; have := HN.out; have := HL.out; omega), ⟨by have := HJ.out; have := HJ12.out; omega⟩, ⟨Over.set (Over.below HO.out (pw_below_drewN (Below.refl _ _) nd)) j _⟩⟩
    · have c1b0 : decide ((j : Int) < (n : Int)) = false := decide_eq_false (by omega)
      have c1b1 : decide (j < n) = false := decide_eq_false c1
      go_wp2
      go_end0
      exact ⟨rfl, HO.out.2⟩
def letterbagkit_OverBytes.f (l0 : List Int) : Option Unit := if l0.length ≤ 1000 then some () else none
theorem letterbagkit_OverBytes.calls (base : Nat) (ok : Nat → Prop) (A0 : Option Addr) (c0 : Nat) (l0 : List Int) (w : World) (hr0 : Kd.R (Kd.int .u8) 5 w base ok (.slice A0 l0.length c0) l0) (hc0 : l0.length + 12 ≤ c0) (h : letterbagkit_OverBytes.f l0 = some ()) :
    Calls Tryd.prog 19 #[.slice A0 l0.length c0] w fun e w' => e = .returned (.tuple #[]) ∧ w.grownBy w' (Value.slice A0 l0.length c0).ownBlock := by
  unfold letterbagkit_OverBytes.f at h
  split at h
  · rename_i hl
    obtain ⟨_, inner, ⟨_, ho⟩, _⟩ := hr0
    rcases ho with ⟨e, _⟩ | ⟨g, cap, cur, e, hb, hg, h1, h2, h3, h4⟩
    · injection e with e1 e2 e3
      omega
    · injection e with e1 e2 e3
      subst e1 e3
      have hO : Over w g (l0.length + 12) w := ⟨⟨cur, hg, by rw [h3]; show l0.length + 12 ≤ c0 * 1; omega⟩, rfl, rfl, rfl, Nat.le_refl _, fun _ _ _ => rfl⟩
      rcases Nat.lt_or_eq_of_le hc0 with hc | hc
      · exact over19a g c0 l0 w _ rfl hO hl hc
      · subst hc
        exact over19b g 0 l0 w _ rfl hO hl
  · cases h
end Go.Proofs.YtehgfpfmpkmdmaaDoor.Print
