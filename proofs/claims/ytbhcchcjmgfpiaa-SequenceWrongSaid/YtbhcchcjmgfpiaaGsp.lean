/- Under sequence.Sort: the two choices of a stacker, slices.Grow, slices.Concat, the closure that makes one pass, and Sort's function. -/
import Derived.Test.YtbhcchcjmgfpiaaGd0
import Derived.Deep.AppendSrc
import Derived.Test.YtbhcchcjmgfpiaaPrint0
import Derived.Test.YtbhcchcjmgfpiaaGb
import Derived.Test.YtbhcchcjmgfpiaaGcf
/- Small functions under sequence.Sort: the two choices of a stacker, and slices.Grow of no row. By hand. -/
namespace Go.Proofs.Ytbhcchcjmgfpiaa.Print
open Go.RowKit Go.Proofs.YtbhcchcjmgfpiaaW.PrintWords Go.Proofs.YtbhcchcjmgfpiaaW.PrintLast Go.Proofs.YtbhcchcjmgfpiaaW.PrintMore

set_option maxHeartbeats 1000000 in
theorem sort44 (a b c d : Int) (w : World) : Calls Try.prog 44 #[.agg #[.int .i64 a, .int .i64 b, .int .i64 c, .int .i64 d]] w fun e w' => e = .returned (.int .i64 c) ∧ Below w.heap.size w w' := by
  have hu60 := Try.underlying60
  go_enter Try.func44, Try.ntmps44
  go_wp2
  go_ret
  exact ⟨rfl, below_alloc (Below.refl _ _) _⟩
set_option maxHeartbeats 1000000 in
theorem sort45 (a b c d : Int) (w : World) : Calls Try.prog 45 #[.agg #[.int .i64 a, .int .i64 b, .int .i64 c, .int .i64 d]] w fun e w' => e = .returned (.int .i64 d) ∧ Below w.heap.size w w' := by
  have hu60 := Try.underlying60
  go_enter Try.func45, Try.ntmps45
  go_wp2
  go_ret
  exact ⟨rfl, below_alloc (Below.refl _ _) _⟩
end Go.Proofs.Ytbhcchcjmgfpiaa.Print

/- append of n noughts to no row of ints, as slices.Grow asks it: the model's run. By hand. -/
namespace Go.Proofs.Ytbhcchcjmgfpiaa.Print
open Go.RowKit Go.Proofs.YtbhcchcjmgfpiaaW.PrintWords Go.Proofs.YtbhcchcjmgfpiaaW.PrintLast Go.Proofs.YtbhcchcjmgfpiaaW.PrintMore

theorem run_zeros24 (w : World) (n : Nat) (h0 : 0 < n) (hn : n ≤ 1000000) (hfit : Builtin.nextslicecap n 0 * 8 ≤ 281474976710656) :
    (Builtin.append_ #[24, 3] 24 #[.slice none 0 0, .int .i64 (n : Int)]).run Try.prog w =
      .ok (.slice (some ⟨w.heap.size, 0, none⟩) n (grownCap w n 0 3)) (w.drew.alloc (.cells (Builtin.zeroCells #[.int .i64 0] n ++ Builtin.zeroCells #[.int .i64 0] (grownCap w n 0 3 - n)) 3)) := by
  obtain ⟨i0, hi, hz, h1, h2⟩ := info_parts info3
  have hu24 := Try.underlying24
  have hu3 := Try.underlying3
  have hw : IntKind.i64.wrap (n : Int) = n := by rw [IntKind.wrap_i64]; omega
  have hneg : ¬ ((n : Int) < 0) := by omega
  have hbig : ¬ ((n : Int) * 8 > 281474976710656) := by omega
  have hn1 : ¬ (n = 0) := by omega
  have h63 : ¬ (9223372036854775807 < (n : Int)) := by omega
  have h48' : ¬ (281474976710656 < Builtin.nextslicecap n 0 * 8) := by omega
  simp [Builtin.append_, run_underlying hu24, run_underlying hu3, sizeOf, typeInfo, zeroValue, hi, hz, h1, h2, hw, hneg, hbig, hn1, h63, h48', Question.forced, newRow, grownCap, asInt, asIntOf, Builtin.firstCells, Result.andThen]
  rfl

theorem app_zeros {ops : Array Oper} {rest : List Oper} {o : Oper} {a : Act} {w : World} {Q : Exit → Act → World → Prop} (n : Nat) (hg : o.guard = none) (s x : Operand) (hop : o.op = .call { callee := .builtin .append, args := #[s, x], argTypes := #[24, 3] }) (ht : o.type = 24)
    (hs : a.eval s = .slice none 0 0) (hx : a.eval x = .int .i64 (n : Int)) (h0 : 0 < n) (hn : n ≤ 1000000) (hfit : Builtin.nextslicecap n 0 * 8 ≤ 281474976710656)
    (h : ∀ (cap : Nat) (w' : World), w' = w.drew.alloc (.cells (Builtin.zeroCells #[.int .i64 0] n ++ Builtin.zeroCells #[.int .i64 0] (cap - n)) 3) → n ≤ cap → cap ≤ maxLen → wpList Try.prog ops Q rest (a.put o.dst (.slice (some ⟨w.heap.size, 0, none⟩) n cap)) w') : wpList Try.prog ops Q (o :: rest) a w := by
  refine wpList_plain hg fun K hK => ?_
  unfold Oper.wp
  have hrun := run_zeros24 w n h0 hn hfit
  simp [execOp, hop, resolve, invoke, builtin, hs, hx, ht, hrun, Result.andThen]
  exact hK _ _ (h _ _ rfl (grownCap_ge w n 0 3) (grownCap_le_maxLen w n 0 3 (by unfold maxLen; omega)))

set_option maxHeartbeats 1000000 in
theorem grow52 (n : Nat) (hn : n ≤ 1000000) (hfit : Builtin.nextslicecap n 0 * 8 ≤ 281474976710656) (w : World) :
    Calls Try.prog 52 #[.slice none 0 0, .int .i64 (n : Int)] w fun e w' => ∃ v0_ : Value, e = .returned v0_ ∧ Kd.R (Kd.int .i64) 3 w' w.heap.size (fun _ => True) v0_ [] ∧ Below w.heap.size w w' := by
  by_cases h0 : n = 0
  · subst h0
    go_enter Try.func52, Try.ntmps52
    go_wp2
    go_ret
    exact ⟨_, rfl, Kd.R_nil _ _ _ _ _, Below.refl _ _⟩
  · have hrun := fun (w : World) => run_zeros24 w n (by omega) hn hfit
    have e1 : decide ((n : Int) < 0) = false := decide_eq_false (by omega)
    have e2 : decide (0 < (n : Int)) = true := decide_eq_true (by omega)
    have e3 : IntKind.i64.wrap (n : Int) = n := by rw [IntKind.wrap_i64]; omega
    go_enter Try.func52, Try.ntmps52
    go_wp2_with (first | ((with_reducible refine gate_builtin (b := .append) (xs := #[.tmp 20, .tmp 21]) rfl ?_); refine app_zeros n rfl (.tmp 20) (.tmp 21) rfl rfl rfl rfl (by omega) hn hfit ?_; intro cap w1 hw1 hcap hmax; subst hw1))
    go_ret
    refine ⟨_, rfl, Kd.R_of_own (h1 := fun _ => rfl) (enc := Value.int .i64) (xs := []) ⟨rfl, .inr ⟨_, cap, _, rfl, Nat.le_refl _, blk_new w.drew _, Nat.zero_le _, hmax, ?_, by simp [encs]⟩⟩ (fun _ _ => trivial), below_alloc (below_drew1 (Below.refl _ _)) _⟩
    simp [size_zeroCells]
    omega
end Go.Proofs.Ytbhcchcjmgfpiaa.Print

/- slices.Concat of rows of ints: the row of rows in one row. Printed with its panic left out, the panic's branch added by hand; then the plain law. -/
namespace Go.Proofs.Ytbhcchcjmgfpiaa.Print
open Go.RowKit Go.Proofs.YtbhcchcjmgfpiaaW.PrintWords Go.Proofs.YtbhcchcjmgfpiaaW.PrintLast Go.Proofs.YtbhcchcjmgfpiaaW.PrintMore
attribute [local go_sem] max2_int min2_int max_two min_two max_three min_three max_four min_four   -- for this text's walks alone
set_option linter.unusedVariables false
set_option linter.unusedSimpArgs false

def growF (a1 : Int) : Option (List Int) := if 0 ≤ a1 ∧ a1 ≤ 1000000 then some [] else none
theorem grow_calls (a1 : Int) (r : List Int) (w : World) (h : growF a1 = some r) :
    Calls Try.prog 52 #[.slice none 0 0, .int .i64 a1] w fun e w' => ∃ v0_ : Value, e = .returned v0_ ∧ Kd.R (Kd.int .i64) 3 w' w.heap.size (fun _ => True) v0_ r ∧ Below w.heap.size w w' := by
  unfold growF at h
  split at h
  · cases h
    rename_i hc
    obtain ⟨n, rfl⟩ := Int.eq_ofNat_of_zero_le hc.1
    refine grow52 n (by omega) ?_ w
    rcases n with _ | n
    · decide
    · unfold Builtin.nextslicecap
      rw [if_pos (by omega)]
      omega
  · cases h
mutual
def concat43.l0 : Nat → List (List Int) → Int → List (List Int) → Int → Int → Option (List Int)
  | 0, _, _, _, _, _ => none
  | k + 1, x0, x3, x9, x10, x11 => if x11 < x10 then (if 0 ≤ x11 then (if x11 < (x9.length : Int) then (if wrap64 (x3 + ((rd_L4 x9 x11).length : Int)) < 0 then none else (concat43.l0 k x0 (wrap64 (x3 + ((rd_L4 x9 x11).length : Int))) x9 x10 (wrap64 (x11 + 1)))) else (none)) else (none)) else ((growF x3).bind fun t597 => (concat43.l1 k t597 x0 (x0.length : Int) 0))
def concat43.l1 : Nat → List Int → List (List Int) → Int → Int → Option (List Int)
  | 0, _, _, _, _ => none
  | k + 1, x6, x25, x26, x27 => if x27 < x26 then (if 0 ≤ x27 then (if x27 < (x25.length : Int) then (if x6.length + (rd_L4 x25 x27).length < 17592186044416 then (concat43.l1 k (x6 ++ (rd_L4 x25 x27)) x25 x26 (wrap64 (x27 + 1))) else (none)) else (none)) else (none)) else (some x6)
end
def concat43.f (k : Nat) (l0 : List (List Int)) : Option (List Int) := concat43.l0 k l0 0 l0 (l0.length : Int) 0
theorem concat43.mono_l : ∀ k, (∀ y0 y1 y2 y3 y4, LeO (concat43.l0 k y0 y1 y2 y3 y4) (concat43.l0 (k + 1) y0 y1 y2 y3 y4)) ∧ (∀ y0 y1 y2 y3, LeO (concat43.l1 k y0 y1 y2 y3) (concat43.l1 (k + 1) y0 y1 y2 y3))
  | 0 => ⟨fun _ _ _ _ _ r h => by simp [concat43.l0] at h, fun _ _ _ _ r h => by simp [concat43.l1] at h⟩
  | k + 1 => by
    obtain ⟨ih0, ih1⟩ := concat43.mono_l k
    refine ⟨?_, ?_⟩
    · intro y0 y1 y2 y3 y4
      unfold concat43.l0
      repeat' first
      | (with_reducible exact ih0 _ _ _ _ _)
      | (with_reducible exact ih1 _ _ _ _)
      | (with_reducible exact LeO.refl _)
      | (with_reducible exact LeO.none _)
      | (with_reducible refine LeO.ite ?_ ?_)
      | (with_reducible refine LeO.bind ?_ (fun _ => ?_))
      | exact ih0 _ _ _ _ _
      | exact ih1 _ _ _ _
      | exact LeO.none _
      | refine LeO.ite ?_ ?_
      | refine LeO.bind ?_ (fun _ => ?_)
    · intro y0 y1 y2 y3
      unfold concat43.l1
      repeat' first
      | (with_reducible exact ih0 _ _ _ _ _)
      | (with_reducible exact ih1 _ _ _ _)
      | (with_reducible exact LeO.refl _)
      | (with_reducible exact LeO.none _)
      | (with_reducible refine LeO.ite ?_ ?_)
      | (with_reducible refine LeO.bind ?_ (fun _ => ?_))
      | exact ih0 _ _ _ _ _
      | exact ih1 _ _ _ _
      | exact LeO.none _
      | refine LeO.ite ?_ ?_
      | refine LeO.bind ?_ (fun _ => ?_)
theorem concat43.mono : ∀ a0 k, LeO (concat43.f k a0) (concat43.f (k + 1) a0) := by
  intro a0 k
  obtain ⟨ih0, ih1⟩ := concat43.mono_l k
  unfold concat43.f
  repeat' first
      | (with_reducible exact ih0 _ _ _ _ _)
      | (with_reducible exact ih1 _ _ _ _)
      | (with_reducible exact LeO.refl _)
      | (with_reducible exact LeO.none _)
      | (with_reducible refine LeO.ite ?_ ?_)
      | (with_reducible refine LeO.bind ?_ (fun _ => ?_))
      | exact ih0 _ _ _ _ _
      | exact ih1 _ _ _ _
      | exact LeO.none _
      | refine LeO.ite ?_ ?_
      | refine LeO.bind ?_ (fun _ => ?_)
set_option maxHeartbeats 8000000 in
set_option maxRecDepth 100000 in
theorem concat43.calls (k : Nat) (A0 : Option Addr) (c0 : Nat) (l0 : List (List Int)) (r : List Int) (w : World) (hr0 : Kd.C (Kd.slice 3 (Kd.int .i64)) w A0 l0.length l0) (hc0 : l0.length ≤ c0) (h : concat43.f k l0 = some r) :
    Calls Try.prog 43 #[.slice A0 l0.length c0] w fun e w' => ∃ v0_ : Value, e = .returned (v0_) ∧ Kd.R (Kd.int .i64) 3 w' w.heap.size (fun _ => True) v0_ r ∧ Below w.heap.size w w' := by
  have HR0 := Aside0.mk hr0
  have HC0 := Aside0.mk hc0
  clear hr0 hc0
  have HB := Aside0.mk (Below.refl w.heap.size w)
  have H : (concat43.l0 k l0 0 l0 (l0.length : Int) 0) = some r := h
  clear h
  have H' := Aside0.mk H
  clear H
  go_enter Try.func43, Try.ntmps43
  go_wp2
  go_loopg [3, 11] k (fun kq v3 v11 w' => ∃ (x3_1 : Int) (x11_1 : Int), v3 = .int .i64 x3_1 ∧ v11 = .int .i64 x11_1 ∧ Aside0 (concat43.l0 kq l0 x3_1 l0 (l0.length : Int) x11_1 = some r) ∧ Aside0 (kq ≤ k) ∧ Aside0 (Below w.heap.size w w'))
  case atStart => exact ⟨(0), (0), (by first | rfl | (simp; done) | (simp [*]; done)), (by first | rfl | (simp; done) | (simp [*]; done)), H', ⟨Nat.le_refl _⟩, ⟨by repeat (first | (with_reducible first | exact HB.out | apply below_alloc | apply pw_below_drewN | apply below_drew1) | exact HB.out)⟩⟩
  case round =>
    clear H'
    obtain ⟨x3_1, x11_1, rfl, rfl, HA, HK1, HB⟩ := hrel
    cases gk with
    | zero => exact absurd HA.out (by simp [concat43.l0])
    | succ k1 =>
      have H := HA.out
      clear HA
      simp only [concat43.l0] at H
      by_cases c2 : x11_1 < (l0.length : Int)
      · rw [if_pos c2] at H
        have c2b0 : decide (x11_1 < (l0.length : Int)) = true := decide_eq_true c2
        clear c2
        by_cases c3 : 0 ≤ x11_1
        · rw [if_pos c3] at H
          have c3b0 : decide (0 ≤ x11_1) = true := decide_eq_true c3
          clear c3
          by_cases c4 : x11_1 < (l0.length : Int)
          · rw [if_pos c4] at H
            have c4b0 : decide (x11_1 < (l0.length : Int)) = true := decide_eq_true c4
            clear c4
            by_cases c5 : wrap64 (x3_1 + ((rd_L4 l0 x11_1).length : Int)) < 0
            · rw [if_pos c5] at H
              exact absurd H (by simp)
            rw [if_neg c5] at H
            have c5b0 : decide (wrap64 (x3_1 + ((rd_L4 l0 x11_1).length : Int)) < 0) = false := decide_eq_false c5
            clear c5
            have H' := Aside0.mk H
            clear H
            have p596 : 0 ≤ (x11_1 : Int) := of_decide_eq_true (by first | (with_reducible assumption) | assumption)
            have q596 : x11_1 < (l0.length : Int) := of_decide_eq_true (by first | (with_reducible assumption) | assumption)
            obtain ⟨ad596, A596_0, c596_0, e596, hx596_0, hl596_0, hi596_0⟩ := at_L4 HR0.out x11_1 p596 q596
            cases e596
            replace hx596_0 := (HB.out.cell (World.block_lt_of_cell? w _ hx596_0)).trans hx596_0
            have HR596_0 := Aside0.mk hi596_0
            have HC596_0 := Aside0.mk hl596_0
            clear hi596_0 hl596_0
            replace p596 := eq_true p596
            replace q596 := eq_true q596
            go_wp2
            go_roundg k1
            case measure => have := HK1.out; omega
            case rel => exact ⟨(wrap64 (x3_1 + ((rd_L4 l0 x11_1).length : Int))), (wrap64 (x11_1 + 1)), (by first | rfl | (simp; done) | (simp [*]; done)), (by first | rfl | (simp; done) | (simp [*]; done)), H', ⟨by have := HK1.out; omega⟩, ⟨by repeat (first | (with_reducible first | exact HB.out | apply below_alloc | apply pw_below_drewN | apply below_drew1) | exact HB.out)⟩⟩
          · rw [if_neg c4] at H
            exact absurd H (by simp)
        · rw [if_neg c3] at H
          exact absurd H (by simp)
      · rw [if_neg c2] at H
        have c2b0 : decide (x11_1 < (l0.length : Int)) = false := decide_eq_false c2
        clear c2
        replace H := Option.bind_eq_some_iff.mp H
        obtain ⟨t597, A50, H⟩ := H
        replace H : (concat43.l1 k1 t597 l0 (l0.length : Int) 0) = some r := H
        have A5 := Aside0.mk A50
        clear A50
        have H' := Aside0.mk H
        clear H
        go_wp2_with (first | ((with_reducible refine gate_callee (f := 52) rfl ?_); refine goesL_ (some 24) rfl rfl Try.func52 (by kernel_rfl) rfl #[.slice none 0 0, .int .i64 x3_1] rfl (by (try simp only [List.map_toArray, List.map_cons, List.map_nil]); first | done | rfl | (simp only [List.length_drop, List.length_take]; rfl)) ?_; (refine (grow_calls x3_1 t597 _ A5.out).mono ?_); rintro e w6 ⟨v598, rfl, ho0, hb⟩; refine ⟨_, rfl, ?_⟩; have n0_ := Aside0.mk (Kd.R_lower ho0 (below_size (by repeat (first | (with_reducible first | exact HB.out | apply below_alloc | apply pw_below_drewN | apply below_drew1) | exact HB.out)))); have n1_ := Aside0.mk (below_step (by repeat (first | (with_reducible first | exact HB.out | apply below_alloc | apply pw_below_drewN | apply below_drew1) | exact HB.out)) hb); clear HB; have HO599 := n0_; have HB := n1_; clear n0_ n1_; (try clear hb); (try clear hb2); (try clear hk); (try clear hi); (try clear ho0)))
        go_loopg [6, 27] k1 (fun kq v6 v27 w' => ∃ (x6_2 : List Int) (x27_2 : Int), v27 = .int .i64 x27_2 ∧ Aside0 (concat43.l1 kq x6_2 l0 (l0.length : Int) x27_2 = some r) ∧ Aside0 (kq ≤ k1) ∧ Aside0 (Kd.R (Kd.int .i64) 3 w' w.heap.size (fun _ => True) v6 x6_2) ∧ Aside0 (Below w.heap.size w w'))
        case atStart => exact ⟨(t597), (0), (by first | rfl | (simp; done) | (simp [*]; done)), H', ⟨Nat.le_refl _⟩, ⟨by (with_reducible repeat (first | apply Kd.R_alloc | apply Kd.R_drewN | apply Kd.R_drew)); exact HO599.out⟩, ⟨by repeat (first | (with_reducible first | exact HB.out | apply below_alloc | apply pw_below_drewN | apply below_drew1) | exact HB.out)⟩⟩
        case round =>
          clear H'
          try clear c2
          try clear c2b0
          try clear p2
          try clear c3
          try clear c3b0
          try clear c4
          try clear c4b0
          try clear c5
          try clear p5
          try clear q5
          try clear hx5
          try clear p6
          try clear hx596_0
          try clear p596
          try clear q596
          obtain ⟨x6_2, x27_2, rfl, HA, HK2, HO_6, HB⟩ := hrel
          cases gk with
          | zero => exact absurd HA.out (by simp [concat43.l1])
          | succ k2 =>
            have H := HA.out
            clear HA
            simp only [concat43.l1] at H
            by_cases c7 : x27_2 < (l0.length : Int)
            · rw [if_pos c7] at H
              have c7b0 : decide (x27_2 < (l0.length : Int)) = true := decide_eq_true c7
              clear c7
              by_cases c8 : 0 ≤ x27_2
              · rw [if_pos c8] at H
                have c8b0 : decide (0 ≤ x27_2) = true := decide_eq_true c8
                clear c8
                by_cases c9 : x27_2 < (l0.length : Int)
                · rw [if_pos c9] at H
                  have c9b0 : decide (x27_2 < (l0.length : Int)) = true := decide_eq_true c9
                  clear c9
                  by_cases c10 : x6_2.length + (rd_L4 l0 x27_2).length < 17592186044416
                  · rw [if_pos c10] at H
                    have LMc10 := Aside0.mk c10
                    clear c10
                    obtain ⟨y601, hy601⟩ : ∃ y_ : List Int, y_ = (x6_2 ++ (rd_L4 l0 x27_2)) := ⟨_, rfl⟩
                    replace H : (concat43.l1 k2 y601 l0 (l0.length : Int) (wrap64 (x27_2 + 1))) = some r := by first | (rw [hy601]; with_reducible exact H) | (have H2_ := (Option.bind_some _ _).symm.trans H; rw [hy601]; with_reducible exact H2_) | (have H2_ := (Option.bind_some _ _).symm.trans H; with_reducible exact H2_) | with_reducible exact H | (rw [hy601]; exact H) | exact H
                    have Ny601 := Aside0.mk hy601
                    clear hy601
                    have H' := Aside0.mk H
                    clear H
                    have p600 : 0 ≤ (x27_2 : Int) := of_decide_eq_true (by first | (with_reducible assumption) | assumption)
                    have q600 : x27_2 < (l0.length : Int) := of_decide_eq_true (by first | (with_reducible assumption) | assumption)
                    obtain ⟨ad600, A600_0, c600_0, e600, hx600_0, hl600_0, hi600_0⟩ := at_L4 HR0.out x27_2 p600 q600
                    cases e600
                    replace hx600_0 := (HB.out.cell (World.block_lt_of_cell? w _ hx600_0)).trans hx600_0
                    have HR600_0 := Aside0.mk hi600_0
                    have HC600_0 := Aside0.mk hl600_0
                    clear hi600_0 hl600_0
                    replace p600 := eq_true p600
                    replace q600 := eq_true q600
                    go_wp2_with (first | ((with_reducible refine gate_builtin (b := .append) (xs := #[.tmp 31, .tmp 32]) rfl ?_); at_builtin; refine Kd.R_append_rows (Kd.int .i64) (w0 := w) w.heap.size rfl (.tmp 31) (.tmp 32) 24 3 (.int .i64 0) 8 rfl Try.underlying24 info3 rfl (by decide) (by omega) u6 x6_2 (rd_L4 l0 x27_2) _ _ _ (fun _ => True) (fun _ => False) rfl rfl ?aO ?aR (fun _ _ h => h) (fun _ h => h.elim) ?aF ?aB ?aS ?aL ?_; (case aR => repeat (first | exact (Kd.C_below HR600_0.out HB.out) | (with_reducible refine Kd.C_alloc ?_ _) | (with_reducible refine Kd.C_drewN ?_ _) | (with_reducible refine Kd.C_drew ?_))); (case aB => exact (by repeat (first | (with_reducible first | exact HB.out | apply below_alloc | apply pw_below_drewN | apply below_drew1) | exact HB.out))); (case aF => exact (fun _ _ => trivial)); (case aO => exact (by (with_reducible repeat (first | apply Kd.R_alloc | apply Kd.R_drewN | apply Kd.R_drew)); exact HO_6.out)); (case aS => exact (below_size (by repeat (first | (with_reducible first | exact HB.out | apply below_alloc | apply pw_below_drewN | apply below_drew1) | exact HB.out)))); (case aL => have := LMc10.out; omega); intro v602 w11 ho hb hg hat; rw [← Ny601.out] at ho; have n0_ := Aside0.mk (hb); have n1_ := Aside0.mk (ho); clear HB; clear HO_6; have HB := n0_; have HO603 := n1_; clear n0_ n1_; clear ho hb hg hat))
                    go_roundg k2
                    case measure => have := HK1.out; have := HK2.out; omega
                    case rel => exact ⟨(y601), (wrap64 (x27_2 + 1)), (by first | rfl | (simp; done) | (simp [*]; done)), H', ⟨by have := HK1.out; have := HK2.out; omega⟩, ⟨by (with_reducible repeat (first | apply Kd.R_alloc | apply Kd.R_drewN | apply Kd.R_drew)); exact HO603.out⟩, ⟨by repeat (first | (with_reducible first | exact HB.out | apply below_alloc | apply pw_below_drewN | apply below_drew1) | exact HB.out)⟩⟩
                  · rw [if_neg c10] at H
                    exact absurd H (by simp)
                · rw [if_neg c9] at H
                  exact absurd H (by simp)
              · rw [if_neg c8] at H
                exact absurd H (by simp)
            · rw [if_neg c7] at H
              have c7b0 : decide (x27_2 < (l0.length : Int)) = false := decide_eq_false c7
              clear c7
              obtain rfl := Option.some.inj H
              go_wp2
              go_ret
              exact ⟨_, by first | rfl | (simp [errW_none, errW_some] <;> rfl) | (simp [*, errW_none, errW_some] <;> rfl), by (with_reducible repeat (first | apply Kd.R_alloc | apply Kd.R_drewN | apply Kd.R_drew)); exact HO_6.out, by repeat (first | (with_reducible first | exact HB.out | apply below_alloc | apply pw_below_drewN | apply below_drew1) | exact HB.out)⟩


theorem rd_L4_get (l : List (List Int)) (k : Nat) (h : k < l.length) : rd_L4 l (k : Int) = l[k] := by
  simp [rd_L4, List.getD_eq_getElem?_getD, List.getElem?_eq_getElem h]
theorem wsm (n : Int) (h1 : -1000000000 ≤ n) (h2 : n ≤ 1000000000) : wrap64 n = n := by unfold wrap64; omega
theorem concat43_l1 (l : List (List Int)) (hl : l.length ≤ 100000) (hf : l.flatten.length ≤ 1000000) : ∀ (m k fuel : Nat), l.length = k + m → m < fuel →
    concat43.l1 fuel (l.take k).flatten l (l.length : Int) (k : Int) = some l.flatten
  | 0, k, fuel, h, hm => by
    obtain ⟨fuel, rfl⟩ : ∃ f, fuel = f + 1 := ⟨fuel - 1, by omega⟩
    rw [concat43.l1, if_neg (by omega), List.take_of_length_le (by omega)]
  | m + 1, k, fuel, h, hm => by
    obtain ⟨fuel, rfl⟩ : ∃ f, fuel = f + 1 := ⟨fuel - 1, by omega⟩
    have hk : k < l.length := by omega
    have e : (l.take k).flatten ++ l[k] = (l.take (k + 1)).flatten := by rw [List.take_add_one, List.flatten_append, List.getElem?_eq_getElem hk]; simp
    have hle : ((l.take (k + 1)).flatten).length ≤ l.flatten.length := by
      rw [show l.flatten = (l.take (k + 1)).flatten ++ (l.drop (k + 1)).flatten by rw [← List.flatten_append, List.take_append_drop]]
      simp
    rw [← e] at hle
    simp only [List.length_append] at hle
    rw [concat43.l1, if_pos (by omega), if_pos (by omega), if_pos (by omega), rd_L4_get l k hk, if_pos (by omega), wsm _ (by omega) (by omega), e]
    have := concat43_l1 l hl hf m (k + 1) fuel (by omega) (by omega)
    simpa using this
theorem concat43_l0 (l : List (List Int)) (hl : l.length ≤ 100000) (hf : l.flatten.length ≤ 1000000) : ∀ (m k fuel : Nat), l.length = k + m → m + l.length + 1 < fuel →
    concat43.l0 fuel l (((l.take k).flatten.length : Nat) : Int) l (l.length : Int) (k : Int) = some l.flatten
  | 0, k, fuel, h, hm => by
    obtain ⟨fuel, rfl⟩ : ∃ f, fuel = f + 1 := ⟨fuel - 1, by omega⟩
    rw [concat43.l0, if_neg (by omega), List.take_of_length_le (by omega)]
    have := concat43_l1 l hl hf l.length 0 fuel (by omega) (by omega)
    rw [show growF ((l.flatten.length : Nat) : Int) = some [] from by unfold growF; rw [if_pos ⟨by omega, by omega⟩], Option.bind_some]
    simpa using this
  | m + 1, k, fuel, h, hm => by
    obtain ⟨fuel, rfl⟩ : ∃ f, fuel = f + 1 := ⟨fuel - 1, by omega⟩
    have hk : k < l.length := by omega
    have e : (l.take k).flatten ++ l[k] = (l.take (k + 1)).flatten := by rw [List.take_add_one, List.flatten_append, List.getElem?_eq_getElem hk]; simp
    have e2 : (l.take k).flatten.length + l[k].length = (l.take (k + 1)).flatten.length := by rw [← e, List.length_append]
    have hle : ((l.take (k + 1)).flatten).length ≤ l.flatten.length := by
      rw [show l.flatten = (l.take (k + 1)).flatten ++ (l.drop (k + 1)).flatten by rw [← List.flatten_append, List.take_append_drop]]
      simp
    rw [concat43.l0, if_pos (by omega), if_pos (by omega), if_pos (by omega), rd_L4_get l k hk, wsm _ (by omega) (by omega), wsm _ (by omega) (by omega), if_neg (by omega)]
    have := concat43_l0 l hl hf m (k + 1) fuel (by omega) (by omega)
    rw [← e2] at this
    simpa using this
theorem concat43_flatten (l : List (List Int)) (hl : l.length ≤ 100000) (hf : l.flatten.length ≤ 1000000) : concat43.f (2 * l.length + 2) l = some l.flatten := by
  have := concat43_l0 l hl hf l.length 0 (2 * l.length + 2) (by omega) (by omega)
  simpa [concat43.f] using this
theorem concat_calls (A0 : Option Addr) (c0 : Nat) (l0 : List (List Int)) (w : World) (hr0 : Kd.C (Kd.slice 3 (Kd.int .i64)) w A0 l0.length l0) (hc0 : l0.length ≤ c0) (hl : l0.length ≤ 100000) (hf : l0.flatten.length ≤ 1000000) :
    Calls Try.prog 43 #[.slice A0 l0.length c0] w fun e w' => ∃ v0_ : Value, e = .returned (v0_) ∧ Kd.R (Kd.int .i64) 3 w' w.heap.size (fun _ => True) v0_ l0.flatten ∧ Below w.heap.size w w' :=
  concat43.calls _ A0 c0 l0 l0.flatten w hr0 hc0 (concat43_flatten l0 hl hf)
end Go.Proofs.Ytbhcchcjmgfpiaa.Print

/- The closure in sequence.Sort: one pass over the order, each place laid into its stacker's row; the order is the rows in one. By hand. -/
namespace Go.Proofs.Ytbhcchcjmgfpiaa.Print
open Go.RowKit Go.Proofs.YtbhcchcjmgfpiaaW.PrintWords Go.Proofs.YtbhcchcjmgfpiaaW.PrintLast Go.Proofs.YtbhcchcjmgfpiaaW.PrintMore
open Go.Maps (Keyed int_keyed keyOf_int_mk)
set_option linter.unusedVariables false
set_option linter.unusedSimpArgs false

/-! ### how a seat reads in the map -/
def seatVal (x : S60) : Value := .agg #[.int .i64 x.f0, .int .i64 x.f1, .int .i64 x.f2, .int .i64 x.f3]
def seatD (x : S60) : DataW Unit := .agg [.lit (.int .i64 x.f0), .lit (.int .i64 x.f1), .lit (.int .i64 x.f2), .lit (.int .i64 x.f3)]
def seatElem (v : Value) : Option (DataW Unit × List MemPlace) :=
  match v with
  | .agg xs => (match xs.toList with | [.int .i64 a, .int .i64 b, .int .i64 c, .int .i64 d] => some (seatD ⟨a, b, c, d⟩, []) | _ => none)
  | _ => none
theorem seatElem_mk (x : S60) : seatElem (seatVal x) = some (seatD x, []) := rfl
theorem seatElem_inv {v : Value} {z : DataW Unit × List MemPlace} (h : seatElem v = some z) : ∃ x, v = seatVal x ∧ z = (seatD x, []) := by
  unfold seatElem at h
  split at h
  · rename_i xs
    split at h
    · rename_i a b c d hl
      refine ⟨⟨a, b, c, d⟩, ?_, (Option.some.inj h).symm⟩
      obtain ⟨l⟩ := xs
      simp only at hl
      subst hl
      rfl
    · cases h
  · cases h
theorem seatD_inj {x y : S60} (h : seatD x = seatD y) : x = y := by
  cases x; cases y
  simp [seatD] at h
  simp [h]
def PlacesAre (D : DataW Unit) (f : Int → Option S60) : Prop := ∀ a, Maps.has D (.int .i64 a) = (f a).isSome ∧ ∀ x, f a = some x → ∀ z, D.atKey (.int .i64 a) z = seatD x
theorem zero60 (w : World) : (zeroValue 60).run Try.prog w = .ok (seatVal ⟨0, 0, 0, 0⟩) w := by kernel_rfl
theorem look_seat {w : World} {M n : Nat} {D : DataW Unit} {f : Int → Option S60} (h : w.ownsMap Try.prog 3 seatElem M n D) (hp : PlacesAre D f) {a : Int} {x : S60} (hf : f a = some x) (hw : (Lit.int .i64 a).wf = true) :
    (Instr.lookup 87 (.map (some M)) (.int .i64 a) false).run Try.prog w = .ok (seatVal x) w := by
  obtain ⟨v, ps, hrun, hv⟩ := h.lookup law3 Try.underlying87 (zero60 w) (seatElem_mk _) (keyOf_int_mk Try.underlying3 hw)
  rw [(hp a).2 x hf] at hv
  obtain ⟨y, rfl, hy⟩ := seatElem_inv hv
  rw [seatD_inj (congrArg Prod.fst hy)]
  exact hrun

/-! ### what Sort's variables hold -/
structure St (w : World) (p0 p1 p2 p3 vi : Value) (M n : Nat) (D : DataW Unit) (W : World) : Prop where
  below : Below w.heap.size w W
  plan : W.heap[w.heap.size]? = some (.cells #[p0, p1, p2, p3] 38 (0, 0))
  its : W.heap[w.heap.size + 1]? = some (.cells #[vi] 24 (0, 0))
  res : W.heap[w.heap.size + 2]? = some (.cells #[.slice none 0 0, .slice none 0 0, .slice none 0 0] 50 (0, 0))
  mc : W.heap[M + 2]? = some (.cells #[.map (some M)] 87 (0, 0))
  own : W.ownsMap Try.prog 3 seatElem M n D
  hM : w.heap.size + 3 ≤ M
section
variable {w W W1 : World} {p0 p1 p2 p3 vi : Value} {M n : Nat} {D : DataW Unit}
theorem own_below {b : Nat} (h : W.ownsMap Try.prog 3 seatElem M n D) (hb : Below b W W1) (hM : M < b) : W1.ownsMap Try.prog 3 seatElem M n D := by
  obtain ⟨es, clock, h1, h2⟩ := h
  exact ⟨es, clock, (hb.block M hM).trans h1, h2⟩
theorem St.low (h : St w p0 p1 p2 p3 vi M n D W) (hb : Below (M + 3) W W1) : St w p0 p1 p2 p3 vi M n D W1 := by
  have hM := h.hM
  exact ⟨h.below.trans (hb.mono (by omega)), (hb.block _ (by omega)).trans h.plan, (hb.block _ (by omega)).trans h.its, (hb.block _ (by omega)).trans h.res, (hb.block _ (by omega)).trans h.mc, own_below h.own hb (by omega), hM⟩
theorem St.size (h : St w p0 p1 p2 p3 vi M n D W) : M + 3 ≤ W.heap.size := by
  have := World.block_lt_of_cell? W ⟨M + 2, 0, none⟩ ((blk_cell h.mc 0).trans rfl)
  simp at this
  omega
end

/-! ### one pass -/
def passRows (n : Nat) (key : Int → Int) (ord : List Int) : List (List Int) := ord.foldl (fun rows i => rows.set (key i).toNat (rd_L4 rows (key i) ++ [i])) (List.replicate n [])
theorem passRows_len (n : Nat) (key : Int → Int) (ord : List Int) : (passRows n key ord).length = n := by
  have h : ∀ (ord : List Int) (rows : List (List Int)), (ord.foldl (fun rows i => rows.set (key i).toNat (rd_L4 rows (key i) ++ [i])) rows).length = rows.length := by
    intro ord
    induction ord with
    | nil => intro rows; rfl
    | cons i xs ih => intro rows; rw [List.foldl_cons, ih]; simp
  unfold passRows
  rw [h]
  simp
theorem passRows_take (n : Nat) (key : Int → Int) (ord : List Int) (k : Nat) (hk : k < ord.length) :
    passRows n key (ord.take (k + 1)) = (passRows n key (ord.take k)).set (key (rd ord k)).toNat (rd_L4 (passRows n key (ord.take k)) (key (rd ord k)) ++ [rd ord k]) := by
  rw [List.take_add_one, List.getElem?_eq_getElem hk]
  unfold passRows
  rw [List.foldl_append]
  simp [rd, List.getD_eq_getElem?_getD, List.getElem?_eq_getElem hk]

theorem flat_set : ∀ (rows : List (List Int)) (j : Nat) (x : Int), (rows.set j (rows.getD j [] ++ [x])).flatten.length ≤ rows.flatten.length + 1
  | [], j, x => by simp
  | r :: rs, 0, x => by simp; omega
  | r :: rs, j + 1, x => by
    have := flat_set rs j x
    simp only [List.set_cons_succ, List.flatten_cons, List.length_append, List.getD_cons_succ] at *
    omega
theorem passRows_flat_le (n : Nat) (key : Int → Int) (ord : List Int) : (passRows n key ord).flatten.length ≤ ord.length := by
  have h : ∀ (ord : List Int) (rows : List (List Int)), (ord.foldl (fun rows i => rows.set (key i).toNat (rd_L4 rows (key i) ++ [i])) rows).flatten.length ≤ rows.flatten.length + ord.length := by
    intro ord
    induction ord with
    | nil => intro rows; exact Nat.le_refl _
    | cons i xs ih =>
      intro rows
      rw [List.foldl_cons]
      refine Nat.le_trans (ih _) ?_
      have := flat_set rows (key i).toNat i
      rw [List.length_cons]
      simp only [rd_L4]
      omega
  have h0 : (List.replicate n ([] : List Int)).flatten.length = 0 := by induction n with
    | zero => rfl
    | succ n ih => simp
  unfold passRows
  have := h ord (List.replicate n [])
  omega
theorem row_le_flat : ∀ (rows : List (List Int)) (j : Nat), (rows.getD j []).length ≤ rows.flatten.length
  | [], j => by simp
  | r :: rs, 0 => by simp
  | r :: rs, j + 1 => by
    have := row_le_flat rs j
    simp only [List.getD_cons_succ, List.flatten_cons, List.length_append]
    omega
theorem passRows_row_le (n : Nat) (key : Int → Int) (ord : List Int) (i : Int) : (rd_L4 (passRows n key ord) i).length ≤ ord.length := Nat.le_trans (row_le_flat _ _) (passRows_flat_le n key ord)
theorem info24s : (Try.prog.info? 24).map (·.size) = some 1 := by kernel_rfl

set_option maxHeartbeats 8000000 in
set_option maxRecDepth 100000 in
theorem pass42 (fn : Nat) (sel : S60 → Int) (hfn : ∀ (x : S60) (w : World), Calls Try.prog fn #[seatVal x] w fun e w' => e = .returned (.int .i64 (sel x)) ∧ Below w.heap.size w w') (hent : ∀ args (w : World), (callFunc fn args).run Try.prog w = .ok (.enter fn args) w)
    (w : World) (A0 : Option Addr) (c0 : Nat) (caps : List Int) (p1 p2 p3 : Value) (A1 : Option Addr) (c1 : Nat) (items : List Int) (M n : Nat) (D : DataW Unit) (f : Int → Option S60) (hPl : PlacesAre D f)
    (hr1 : Kd.C (Kd.int .i64) w A1 items.length items) (hwf : ∀ x ∈ items, (Lit.int .i64 x).wf = true)
    (hn0 : 0 < caps.length) (hn1 : caps.length ≤ 100) (W : World) (hSt : St w (.slice A0 caps.length c0) p1 p2 p3 (.slice A1 items.length c1) M n D W) (B : Nat) (hB : M + 3 ≤ B) (A : Option Addr) (c : Nat) (ord : List Int) (hcell : W.heap[B]? = some (.cells #[.slice A ord.length c] 24 (0, 0)))
    (hord : Kd.C (Kd.int .i64) W A ord.length ord) (hol : ord.length ≤ 2000)
    (hin : ∀ i ∈ ord, 0 ≤ i ∧ i < items.length ∧ ∃ x, f (rd items i) = some x ∧ 0 ≤ sel x ∧ sel x < caps.length) (key : Int → Int) (hkey : ∀ i ∈ ord, ∀ x, f (rd items i) = some x → key i = sel x) :
    Calls Try.prog 42 #[.func (.func fn) #[] #[], .pointer (some ⟨w.heap.size, 0, none⟩), .pointer (some ⟨B, 0, none⟩), .pointer (some ⟨M + 2, 0, none⟩), .pointer (some ⟨w.heap.size + 1, 0, none⟩)] W fun e W' =>
      ∃ v u, e = .returned v ∧ Kd.S (Kd.slice 3 (Kd.int .i64)) 24 W' W.heap.size (fun k => some k ≠ u.ownBlock) v (passRows caps.length key ord) ∧ Below B W W' ∧ KeepBut W W' B none ∧
        W'.heap[B]? = some (.cells #[u] 24 (0, 0)) ∧ Kd.R (Kd.int .i64) 3 W' W.heap.size (fun _ => True) u (passRows caps.length key ord).flatten := by
  have HR1 := Aside0.mk (Kd.C_below hr1 hSt.below)
  have HST := Aside0.mk hSt
  have HO := Aside0.mk hord
  have HIN := Aside0.mk hin
  have HKEY := Aside0.mk hkey
  have HWF := Aside0.mk hwf
  have HC := Aside0.mk hcell
  have HPL := Aside0.mk hPl
  have hMs := hSt.size
  have g0 : W.cell? ⟨w.heap.size, 0, none⟩ = some (.slice A0 caps.length c0) := (blk_cell hSt.plan 0).trans rfl
  have g1 : W.cell? ⟨B, 0, none⟩ = some (.slice A ord.length c) := (blk_cell hcell 0).trans rfl
  clear hr1 hSt hord hin hkey hwf hcell hPl
  go_enter Try.func42, Try.ntmps42
  go_wp2_with (first | ((with_reducible refine gate_dst (N := 14) rfl ?_); refine Kd.S_make (Kd.slice 3 (Kd.int .i64)) (w0 := W) W.heap.size 24 rfl rfl 48 (.tmp 13) (.tmp 13) rfl (caps.length : Int) rfl rfl Try.underlying48 (.slice none 0 0) 24 info24 rfl (by decide) (by decide) [] (okp := fun _ => False) (ok := fun _ => True) ?aZ (fun _ hk => hk.elim) trivial (by omega) (by omega) (Below.refl _ _) (Nat.le_refl _) ?_; (case aZ => exact ⟨.slice none 0 0, rfl, Kd.R_nil _ _ _ _ _⟩); intro v1 w1 hS1 hb1 hg1 hat1; have HS1 := Aside0.mk hS1; have HB1 := Aside0.mk hb1; have g2 : w1.cell? ⟨B, 0, none⟩ = some (.slice A ord.length c) := (hb1.cell (World.block_lt_of_cell? W _ g1)).trans g1; clear hS1 hb1 hg1 hat1))
  obtain ⟨g, cap, rfl, hgb, hgl, hgc⟩ := Kd.S_form HS1.out (by simpa using hn0)
  simp only [List.length_replicate, Int.toNat_natCast] at *
  clear hgb hgl hgc g0 g1 g2
  go_loopw [17] (fun i wr => ∃ k : Nat, k ≤ ord.length ∧ i = .int .i64 k ∧ Aside0 (Kd.S (Kd.slice 3 (Kd.int .i64)) 24 wr W.heap.size (fun _ => True) (.slice (some ⟨g, 0, none⟩) caps.length cap) (passRows caps.length key (ord.take k))) ∧ Aside0 (Below W.heap.size W wr))
    (fun i _ => ord.length - (intOf i).toNat)
  case atStart => exact ⟨0, Nat.zero_le _, rfl, HS1, HB1⟩
  case round =>
    clear HS1 HB1
    obtain ⟨k, hk, rfl, HS, HB⟩ := hrel
    by_cases hlt : k < ord.length
    · have hk' : rd ord (k : Int) = ord[k] := by simp [rd, List.getD_eq_getElem?_getD, List.getElem?_eq_getElem hlt]
      have hmem : rd ord (k : Int) ∈ ord := by rw [hk']; exact List.getElem_mem hlt
      have hrow := passRows_take caps.length key ord k hlt
      obtain ⟨hi0, hi1, x, hfx, hq0, hq1⟩ := HIN.out _ hmem
      rw [HKEY.out _ hmem x hfx] at hrow
      have hwd : (Lit.int .i64 (rd items (rd ord (k : Int)))).wf = true := by
        refine HWF.out _ ?_
        rw [rd, List.getD_eq_getElem?_getD, List.getElem?_eq_getElem (show (rd ord (k : Int)).toNat < items.length by omega)]
        exact List.getElem_mem _
      obtain ⟨ad, rfl, hxo⟩ := Kd.at_int (Kd.C_below HO.out HB.out) (k : Int) (by omega) (by omega)
      obtain ⟨ad2, rfl, hxi⟩ := Kd.at_int (Kd.C_below HR1.out HB.out) (rd ord (k : Int)) hi0 hi1
      simp only [Int.toNat_natCast] at hxo
      generalize rd ord (k : Int) = id at hi0 hi1 hxo hxi hfx hrow hwd
      generalize rd items id = it at hxi hfx hwd
      obtain ⟨q, hq⟩ : ∃ y, y = sel x := ⟨_, rfl⟩
      rw [← hq] at hq0 hq1 hrow
      obtain ⟨rows, hrs⟩ : ∃ y, y = passRows caps.length key (ord.take k) := ⟨_, rfl⟩
      rw [← hrs] at HS hrow
      have hrl : rows.length = caps.length := by rw [hrs]; exact passRows_len _ _ _
      have HLR : Aside0 (∀ i, (rd_L4 rows i).length ≤ 2000) := ⟨fun i => by rw [hrs]; refine Nat.le_trans (passRows_row_le _ _ _ _) ?_; rw [List.length_take]; omega⟩
      obtain ⟨rows', hrs'⟩ : ∃ y, y = passRows caps.length key (ord.take (k + 1)) := ⟨_, rfl⟩
      rw [← hrs'] at hrow
      have HROW := Aside0.mk hrow
      have HRS' := Aside0.mk hrs'
      have HQ := Aside0.mk hq
      have HRL := Aside0.mk hrl
      have HFX := Aside0.mk hfx
      have HWD := Aside0.mk hwd
      clear hk' hmem hrow hfx hwd hq hrs hrs' hrl
      have hSt' := HST.out.low (HB.out.mono hMs)
      have hp3 : wr.cell? ⟨M + 2, 0, none⟩ = some (.map (some M)) := (blk_cell hSt'.mc 0).trans rfl
      have hp4 : wr.cell? ⟨w.heap.size + 1, 0, none⟩ = some (.slice (some ad2) items.length c1) := (blk_cell hSt'.its 0).trans rfl
      have HOWN := Aside0.mk hSt'.own
      clear hSt'
      replace hi0 := eq_true hi0
      replace hi1 := eq_true hi1
      have p0 := eq_true hq0
      have p1_ := eq_true hq1
      clear hq0 hq1
      go_wp2
      refine start_ (n := 9) (S := fun w' => w'.cell? ⟨M + 2, 0, none⟩ = some (.map (some M)) ∧ w'.cell? ⟨w.heap.size + 1, 0, none⟩ = some (.slice (some ad2) items.length c1) ∧ w'.cell? (ad2.add id.toNat) = some (.int .i64 it) ∧ w'.ownsMap Try.prog 3 seatElem M n D ∧ Below W.heap.size W w' ∧ Kd.S (Kd.slice 3 (Kd.int .i64)) 24 w' W.heap.size (fun _ => True) (.slice (some ⟨g, 0, none⟩) caps.length cap) rows) (ds := []) #[false, false, false, false, false, false, false, false, false] (by kernel_rfl) rfl rfl ⟨hp3, hp4, hxi, HOWN.out, below_drew1 HB.out, Kd.S_drew HS.out⟩ (fun hHeld => ?_)
      generalize wr.drew = wa at hHeld ⊢
      clear hp3 hp4 hxi HOWN hxo
      refine pure_ (i := 0) (N := some 21) (v := ?_) (a' := ?_) #[true, false, false, false, false, false, false, false, false] rfl rfl (by kernel_rfl) (fun _ _ _ h => h) (Or.inl ⟨by rfl, ?_⟩) ?_ ?_
      rotate_left
      · intro w'
        go_simp
        with_reducible rfl
      rotate_left
      · simp only [Act.put, List.setIfInBounds_toArray, List.set_cons_zero, List.set_cons_succ, i64_w, i32_w]
        rfl
      refine take_ (i := 1) (N := some 22) (v := ?_) (a' := ?_) #[true, true, false, false, false, false, false, false, false] rfl rfl (by kernel_rfl) (fun _ _ _ h => h) (Or.inl ⟨by rfl, ?_⟩) hHeld ?_ ?_
      rotate_left
      · rintro w' ⟨s0, s1, s2, s3, s4, s5⟩
        go_simp
        with_reducible rfl
      rotate_left
      · simp only [Act.put, List.setIfInBounds_toArray, List.set_cons_zero, List.set_cons_succ, i64_w, i32_w]
        rfl
      refine take_ (i := 2) (N := some 23) (v := ?_) (a' := ?_) #[true, true, true, false, false, false, false, false, false] rfl rfl (by kernel_rfl) (fun _ _ _ h => h) (Or.inl ⟨by rfl, ?_⟩) hHeld ?_ ?_
      rotate_left
      · rintro w' ⟨s0, s1, s2, s3, s4, s5⟩
        go_simp
        with_reducible rfl
      rotate_left
      · simp only [Act.put, List.setIfInBounds_toArray, List.set_cons_zero, List.set_cons_succ, i64_w, i32_w]
        rfl
      refine pure_ (i := 3) (N := some 24) (v := ?_) (a' := ?_) #[true, true, true, true, false, false, false, false, false] rfl rfl (by kernel_rfl) (fun _ _ _ h => h) (Or.inl ⟨by rfl, ?_⟩) ?_ ?_
      rotate_left
      · intro w'
        go_simp
        with_reducible rfl
      rotate_left
      · simp only [Act.put, List.setIfInBounds_toArray, List.set_cons_zero, List.set_cons_succ, i64_w, i32_w]
        rfl
      refine pure_ (i := 4) (N := some 25) (v := ?_) (a' := ?_) #[true, true, true, true, true, false, false, false, false] rfl rfl (by kernel_rfl) (fun _ _ _ h => h) (Or.inl ⟨by rfl, ?_⟩) ?_ ?_
      rotate_left
      · intro w'
        go_simp
        with_reducible rfl
      rotate_left
      · simp only [Act.put, List.setIfInBounds_toArray, List.set_cons_zero, List.set_cons_succ, i64_w, i32_w]
        rfl
      refine take_ (i := 5) (N := some 26) (v := ?_) (a' := ?_) #[true, true, true, true, true, true, false, false, false] rfl rfl (by kernel_rfl) (fun _ _ _ h => h) (Or.inl ⟨by rfl, ?_⟩) hHeld ?_ ?_
      rotate_left
      · rintro w' ⟨s0, s1, s2, s3, s4, s5⟩
        go_simp
        with_reducible rfl
      rotate_left
      · simp only [Act.put, List.setIfInBounds_toArray, List.set_cons_zero, List.set_cons_succ, i64_w, i32_w]
        rfl
      refine take_ (i := 6) (N := some 27) (v := ?_) (a' := ?_) #[true, true, true, true, true, true, true, false, false] rfl rfl (by kernel_rfl) (fun _ _ _ h => h) (Or.inl ⟨by rfl, ?_⟩) hHeld ?_ ?_
      rotate_left
      · rintro w' ⟨s0, s1, s2, s3, s4, s5⟩
        have hrun := look_seat s3 HPL.out HFX.out HWD.out
        go_simp
        with_reducible rfl
      rotate_left
      · simp only [Act.put, List.setIfInBounds_toArray, List.set_cons_zero, List.set_cons_succ, i64_w, i32_w]
        rfl
      refine one_ (i := 7) (N := some 28) #[true, true, true, true, true, true, true, true, false] rfl rfl (by kernel_rfl) (by decide) (fun K hK => ?_)
      refine call_ fn #[seatVal x] (by rfl) rfl ?_ ?_
      · have he := hent #[seatVal x] wa
        simp [execOp, resolve, Deferred.ofValue, invoke, Act.eval, he]
      refine (hfn x wa).mono ?_
      rintro e wb ⟨rfl, hbb⟩
      refine ⟨_, rfl, ?_⟩
      obtain ⟨s0, s1, s2, s3, s4, s5⟩ := hHeld
      have hba := below_then s4 s4.size hbb
      refine hK.out _ _ ⟨(hbb.cell (World.block_lt_of_cell? _ _ s0)).trans s0, (hbb.cell (World.block_lt_of_cell? _ _ s1)).trans s1, (hbb.cell (World.block_lt_of_cell? _ _ s2)).trans s2, own_below s3 hbb s3.lt, hba, Kd.S_below s5 hbb⟩ ?_
      clear hK K s0 s1 s2 s3 s4 s5 hba hbb wa
      rintro ⟨s0, s1, s2, s3, s4, s5⟩
      have HS := Aside0.mk s5
      have HB := Aside0.mk s4
      clear s0 s1 s2 s3 s4 s5
      rw [← HQ.out]
      refine pure_ (i := 8) (N := some 10) (v := ?_) (a' := ?_) #[true, true, true, true, true, true, true, true, true] rfl rfl (by kernel_rfl) (fun _ _ _ h => h) (Or.inl ⟨by rfl, ?_⟩) ?_ ?_
      rotate_left
      · intro w'
        go_simp
        with_reducible rfl
      rotate_left
      · simp only [Act.put, List.setIfInBounds_toArray, List.set_cons_zero, List.set_cons_succ, i64_w, i32_w]
        rfl
      refine done_ (by kernel_rfl) ?_
      obtain ⟨oki, ce, hcl, hM, hcc, hfr, hoki, hH⟩ := Kd.S_elem HS.out ([] : List Int) q (of_eq_true p0) (of_eq_true p1_)
      obtain ⟨ve, rfl, hRe⟩ := hM
      have hx0 := hcc 0 _ rfl
      simp only [Nat.add_zero, show (Kd.slice 3 (Kd.int .i64)).sz = 1 from rfl, Nat.mul_one] at hx0
      have hlr := HLR.out q
      have hrow : rows.getD q.toNat [] = rd_L4 rows q := rfl
      rw [hrow] at hRe
      clear hrow
      generalize rd_L4 rows q = row at hRe hlr HROW
      have HH2 := Aside0.mk (Kd.H_widen hH)
      have HRE2 := Aside0.mk (Kd.R_mono hRe (fun k hk => (Or.inl hk : oki k ∨ True ∧ wb.heap.size ≤ k)))
      have hfresh : ∀ k, wb.heap.size ≤ k → oki k ∨ True ∧ wb.heap.size ≤ k := fun k hk => .inr ⟨trivial, hk⟩
      have HFR := Aside0.mk hfresh
      clear hcl hcc hfr hoki hH hRe hfresh HS
      go_wp2_with (first
        | ((with_reducible refine gate_builtin (b := .append) (xs := #[.tmp 34, .tmp 36]) rfl ?_); at_builtin; refine Kd.R_append (Kd.int .i64) (w0 := W) W.heap.size rfl (.tmp 34) (.tmp 36) 24 3 (.int .i64 0) 8 rfl Try.underlying24 info3 rfl (by decide) (by omega) ve row id [.int .i64 id] (fun k => oki k ∨ True ∧ wb.heap.size ≤ k) (fun _ => False) rfl rfl rfl (fun _ hk => hk.elim) HFR.out HRE2.out HB.out HB.out.size ?aL ?_; (case aL => omega); intro v6 w6 ho hb hg hat
           have HH6 := Aside0.mk (Kd.H_grown HH2.out hg (fun k hk => HRE2.out.1 k hk))
           have HB6 := Aside0.mk hb
           have HO6 := Aside0.mk ho
           have HU6 : v6.cells.toList = [v6] := by obtain ⟨A, c, h⟩ := Kd.R_slice ho; rw [h]; rfl
           have HN6 : ∀ q ∈ [v6], q.oneCell' = true := by obtain ⟨A, c, h⟩ := Kd.R_slice ho; rw [h]; intro q hq; rw [List.mem_singleton.1 hq]; rfl
           have HV6 := Aside0.mk HU6
           have HW6 := Aside0.mk HN6
           clear ho hb hg hat HU6 HN6 HB HRE2 HH2 HFR hx0)
        | ((with_reducible refine gate_store (p := 38) rfl ?_); refine Kd.H_store (Kd.slice 3 (Kd.int .i64)) (w0 := W) W.heap.size rfl rfl 24 (.tmp 38) (.tmp 37) rfl 24 q 0 rows (row ++ [id]) v6 [v6] [ve] (fun _ => True) (fun k => oki k ∨ True ∧ wb.heap.size ≤ k) (fun k => oki k ∨ True ∧ wb.heap.size ≤ k) rfl (Nat.mul_one _).symm rfl HV6.out info24s HW6.out HH6.out (of_eq_true p0) (of_eq_true p1_) (Nat.le_refl 1) ⟨v6, rfl, HO6.out⟩ (fun _ hk => hk) HB6.out ?_
           intro w7 ho7 hb7 hg7
           have HO7 := Aside0.mk ho7
           have HB7 := Aside0.mk hb7
           clear ho7 hb7 hg7))
      go_roundw
      case rel => exact ⟨k + 1, by omega, by go_num, ⟨by rw [← HRS'.out, HROW.out]; exact HO7.out⟩, HB7⟩
      case measure => simp [intOf]; omega
    · have HS2 : Aside0 (Kd.S (Kd.slice 3 (Kd.int .i64)) 24 wr W.heap.size (fun _ => True) (.slice (some ⟨g, 0, none⟩) caps.length cap) (passRows caps.length key ord)) := ⟨by have h := HS.out; rwa [List.take_of_length_le (by omega)] at h⟩
      have hfl := passRows_flat_le caps.length key ord
      have hrl := passRows_len caps.length key ord
      obtain ⟨rows, hrs⟩ : ∃ y, y = passRows caps.length key ord := ⟨_, rfl⟩
      obtain ⟨fl, hfe⟩ : ∃ y, y = rows.flatten := ⟨_, rfl⟩
      rw [← hrs] at HS2 hfl hrl
      have HRS := Aside0.mk hrs
      have hrd := Kd.S_reads' HS2.out
      have hcc := concat_calls (some ⟨g, 0, none⟩) cap rows wr hrd.2.2 (by omega) (by omega) (by omega)
      rw [hrl, ← hfe] at hcc
      have HFE := Aside0.mk hfe
      have HCC := Aside0.mk hcc
      have HC2 := Aside0.mk (blk_below HC.out HB.out)
      have hBs := blk_lt HC.out
      clear hcc hrd hfl hrl HS hrs hfe
      go_wp2_with (first
        | ((with_reducible refine gate_callee (f := 43) rfl ?_); refine goesL_ (some 41) rfl rfl Try.func43 (by kernel_rfl) rfl #[.slice (some ⟨g, 0, none⟩) caps.length cap] rfl (by (try simp only [List.map_toArray, List.map_cons, List.map_nil]); first | done | rfl) ?_; refine HCC.out.mono ?_; rintro e w6 ⟨u, rfl, ho, hb⟩; obtain ⟨A6, k6, rfl⟩ := Kd.R_slice ho; refine ⟨_, rfl, ?_⟩
           have c6 := blk_below HC2.out hb
           have f6 := blk_frozen c6 0
           have g6 : w6.cell? ⟨B, 0, none⟩ = some (.slice A ord.length c) := (blk_cell c6 0).trans rfl
           have HO6 := Aside0.mk ho
           have HB6 := Aside0.mk hb
           have HC6 := Aside0.mk c6
           clear ho hb c6))
      go_ret
      have hb := below_then HB.out HB.out.size HB6.out
      refine ⟨_, _, rfl, ?_, (hb.mono (Nat.le_of_lt hBs)).setCell (Nat.le_refl _) _, ⟨by simpa [World.setCell] using hb.size, fun i hi hne _ => (Below.heap_setCell _ _ _ _ hne).trans (hb.block i hi)⟩, blk_put HC6.out 0 _ rfl, ?_⟩
      · rw [← HRS.out]
        refine Kd.S_mono (Kd.S_far (p := ⟨B, 0, none⟩) (Kd.S_below (Kd.S_mono (Kd.S_bound HS2.out) (fun k hk => (⟨hk.2.1, hk.2.2.1⟩ : W.heap.size ≤ k ∧ k < wr.heap.size))) HB6.out) (fun k hk => by show k ≠ B; omega) _) (fun k hk he => by have := Kd.R_base HO6.out k he.symm; omega)
      · rw [← HRS.out, ← HFE.out]
        refine Kd.R_mono (Kd.R_far (p := ⟨B, 0, none⟩) (Kd.R_mono (Kd.R_bound (Kd.R_lower HO6.out HB.out.size)) (fun k hk => (hk.2.1 : W.heap.size ≤ k))) (fun k hk => by show k ≠ B; omega) _) (fun _ _ => trivial)
end Go.Proofs.Ytbhcchcjmgfpiaa.Print

/- sequence.Sort's function: what it answers for any plan and items. -/
namespace Go.Proofs.Ytbhcchcjmgfpiaa.Print
open Go.RowKit Go.Proofs.YtbhcchcjmgfpiaaW.PrintWords Go.Proofs.YtbhcchcjmgfpiaaW.PrintLast Go.Proofs.YtbhcchcjmgfpiaaW.PrintMore
def placeOf (seats : List S60) (a : Int) : Option S60 := seats.reverse.find? (fun x => x.f0 == a)
def sortScan (seats : List S60) : List Int → List Int → Int
  | _, [] => 0
  | pre, id :: xs => match placeOf seats id with
    | none => 6
    | some x => if x.f1 < ((pre.count id : Nat) : Int) + 1 then 4 else sortScan seats (pre ++ [id]) xs
def keyFirst (seats : List S60) (items : List Int) (i : Int) : Int := match placeOf seats (rd items i) with
  | some x => x.f2
  | none => 0
def keySecond (seats : List S60) (items : List Int) (i : Int) : Int := match placeOf seats (rd items i) with
  | some x => x.f3
  | none => 0
def seatsIn (n : Nat) (seats : List S60) : Bool := seats.all fun x => decide (0 ≤ x.f2) && decide (x.f2 < n) && decide (0 ≤ x.f3) && decide (x.f3 < n)
def upTo (n : Nat) : List Int := (List.range n).map Int.ofNat
def firstRows (n : Nat) (seats : List S60) (items : List Int) : List (List Int) := passRows n (keyFirst seats items) (upTo items.length)
def secondRows (n : Nat) (seats : List S60) (items : List Int) : List (List Int) := passRows n (keySecond seats items) (firstRows n seats items).flatten
def sequence_Sort.f (l0_0 : List Int) (l0_1 : List S60) (l0_2 : List Int) (l0_3 : List Int) (l1 : List Int) : Option (List (List Int) × List (List Int) × List Int × Int) :=
  if l0_1.all (fun x => wfI x.f0) && l1.all wfI then
    match sequence_Check.f l0_0 l0_1 l0_2 l0_3 with
    | none => none
    | some (_, e) =>
      if e = 0 then
        if 2000 < l1.length then some ([], [], [], 5)
        else if sortScan l0_1 [] l1 = 0 then
          if 0 < l0_0.length ∧ l0_0.length ≤ 100 ∧ seatsIn l0_0.length l0_1 = true then some (firstRows l0_0.length l0_1 l1, secondRows l0_0.length l0_1 l1, (secondRows l0_0.length l0_1 l1).flatten, 0) else none
        else some ([], [], [], sortScan l0_1 [] l1)
      else some ([], [], [], e)
  else none

theorem upTo_len (n : Nat) : (upTo n).length = n := by simp [upTo]
theorem upTo_succ (n : Nat) : upTo (n + 1) = upTo n ++ [(n : Int)] := by simp [upTo, List.range_succ]
theorem upTo_mem {n : Nat} {i : Int} (h : i ∈ upTo n) : 0 ≤ i ∧ i < n := by
  simp only [upTo, List.mem_map, List.mem_range] at h
  obtain ⟨k, hk, rfl⟩ := h
  exact ⟨by simp, by simpa using hk⟩
theorem placeOf_nil (a : Int) : placeOf [] a = none := rfl
theorem placeOf_snoc (s : List S60) (x : S60) (a : Int) : placeOf (s ++ [x]) a = if x.f0 = a then some x else placeOf s a := by
  unfold placeOf
  rw [List.reverse_append, List.reverse_cons, List.reverse_nil, List.nil_append, List.singleton_append, List.find?_cons]
  by_cases h : x.f0 = a
  · simp [h]
  · rw [if_neg h, show (x.f0 == a) = false by simpa using h]
theorem placeOf_mem {s : List S60} {a : Int} {x : S60} (h : placeOf s a = some x) : x ∈ s ∧ x.f0 = a := by
  unfold placeOf at h
  have h1 := List.mem_of_find?_eq_some h
  have h2 := List.find?_some h
  exact ⟨by simpa using h1, by simpa using h2⟩
theorem sortScan_drop (seats : List S60) (items pre : List Int) (k : Nat) (hk : k < items.length) :
    sortScan seats pre (items.drop k) = match placeOf seats (rd items (k : Int)) with
      | none => 6
      | some x => if x.f1 < ((pre.count (rd items (k : Int)) : Nat) : Int) + 1 then 4 else sortScan seats (pre ++ [rd items (k : Int)]) (items.drop (k + 1)) := by
  rw [List.drop_eq_getElem_cons hk, sortScan]
  have e : rd items (k : Int) = items[k] := by simp [rd, List.getD_eq_getElem?_getD, List.getElem?_eq_getElem hk]
  rw [e]
theorem sortScan_zero (seats : List S60) : ∀ (xs pre : List Int), sortScan seats pre xs = 0 → ∀ id ∈ xs, ∃ x, placeOf seats id = some x
  | [], _, _ => fun _ h => by cases h
  | y :: ys, pre, h => by
    intro id hid
    unfold sortScan at h
    cases hp : placeOf seats y with
    | none => rw [hp] at h; cases h
    | some x =>
      rw [hp] at h
      simp only at h
      split at h
      · cases h
      · rcases List.mem_cons.1 hid with rfl | h2
        · exact ⟨x, hp⟩
        · exact sortScan_zero seats ys _ h id h2
theorem mem_set_flat : ∀ (rows : List (List Int)) (j : Nat) (x i : Int), i ∈ (rows.set j (rows.getD j [] ++ [x])).flatten → i ∈ rows.flatten ∨ i = x
  | [], j, x, i, h => by simp at h
  | r :: rs, 0, x, i, h => by
    simp only [List.set_cons_zero, List.flatten_cons, List.getD_cons_zero, List.mem_append, List.mem_singleton] at *
    rcases h with (h | h) | h
    · exact .inl (.inl h)
    · exact .inr h
    · exact .inl (.inr h)
  | r :: rs, j + 1, x, i, h => by
    simp only [List.set_cons_succ, List.flatten_cons, List.getD_cons_succ, List.mem_append] at *
    rcases h with h | h
    · exact .inl (.inl h)
    · rcases mem_set_flat rs j x i h with h | h
      · exact .inl (.inr h)
      · exact .inr h
theorem passRows_mem (n : Nat) (key : Int → Int) (ord : List Int) : ∀ i ∈ (passRows n key ord).flatten, i ∈ ord := by
  have h : ∀ (ord : List Int) (rows : List (List Int)), ∀ i ∈ (ord.foldl (fun rows i => rows.set (key i).toNat (rd_L4 rows (key i) ++ [i])) rows).flatten, i ∈ rows.flatten ∨ i ∈ ord := by
    intro ord
    induction ord with
    | nil => intro rows i hi; exact .inl hi
    | cons y ys ih =>
      intro rows i hi
      rw [List.foldl_cons] at hi
      rcases ih _ i hi with h1 | h1
      · rcases mem_set_flat rows (key y).toNat y i h1 with h2 | h2
        · exact .inl h2
        · exact .inr (by simp [h2])
      · exact .inr (List.mem_cons_of_mem _ h1)
  intro i hi
  rcases h ord _ i hi with h1 | h1
  · exfalso
    induction n with
    | zero => simp at h1
    | succ n ih => simp at h1
  · exact h1
end Go.Proofs.Ytbhcchcjmgfpiaa.Print
