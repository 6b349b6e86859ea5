-- Ge, Print10 (what this claim uses of them)
import Derived.RangeFuncNested
import Derived.RangeFuncBound
import Derived.RangeFuncCalls
import Derived.RangeFuncLeaves
import Derived.Shelf.Abstract
import Derived.OwnWalkIn
import Derived.TacticsInMore
import Derived.LoopNIn
import Derived.LoopIn
import Derived.Maps.AppendAt
import Derived.Test.YtehgfpfmpkmdmaaDoorYv23
import Derived.Test.YtehgfpfmpkmdmaaDoorYv22
namespace Go.Proofs.YtehgfpfmpkmdmaaDoor.Print
open Go.RowKit Go.Shelf Go.Proofs.YtehgfpfmpkmdmaaDoorW.PrintWords Go.Proofs.YtehgfpfmpkmdmaaDoorW.PrintLast Go.Proofs.YtehgfpfmpkmdmaaDoorW.PrintMore
open Go.Proofs.YtehgfpfmpkmdmaaDoor.Gf
attribute [local go_sem] Oper.semAt_some
set_option linter.unusedVariables false
set_option linter.unusedSimpArgs false
abbrev BackEl := { x : Int × Int // elB x.2 = true }
def backV (x : BackEl) : Array Value := #[.int .i64 x.1.1, .int .u8 x.1.2]
def backG (l : List Int) (j : Nat) : BackEl := if h : elB (rd l ((l.length - 1 - j : Nat) : Int)) = true then ⟨(((l.length - 1 - j : Nat) : Int), rd l ((l.length - 1 - j : Nat) : Int)), h⟩ else ⟨(0, 0), by decide⟩
def backs (l : List Int) (k : Nat) : List BackEl := (List.range k).map (backG l)
theorem backs_len (l : List Int) (k : Nat) : (backs l k).length = k := by simp [backs]
theorem backs_succ (l : List Int) (k : Nat) : backs l (k + 1) = backs l k ++ [backG l k] := by simp [backs, List.range_succ]
/-- What a round of the caller keeps: what lay below n₁, and the iterator's captured variable. -/
def KpB (n₁ B : Nat) (W W' : World) : Prop := Below n₁ W W' ∧ ∀ o, W.heap[B]? = some o → W'.heap[B]? = some o
theorem KpB.trans {n₁ B : Nat} {X Y Z : World} (h : KpB n₁ B X Y) (k : KpB n₁ B Y Z) : KpB n₁ B X Z := ⟨h.1.trans k.1, fun o ho => k.2 o (h.2 o ho)⟩
set_option maxRecDepth 100000 in
set_option maxHeartbeats 4000000 in
theorem back_in (n : Nat) (hn : 1 ≤ n) (l B : Nat) (A : Option Addr) (c : Nat) (zs : List Int) (w : World) (J Jx : List BackEl → World → Prop)
    (hr : Kd.C (Kd.int .u8) w A zs.length zs) (hz : zs.all elB = true)
    (W : World)
    (hY : ∀ pre x W1, J pre W1 → pre.length < zs.length → YieldAt Fence.wide (n - 1) Tryd.prog l (backV x) W1 fun e W' =>
      (e = .returned (.bool true) ∧ J (pre ++ [x]) W' ∧ KpB w.heap.size B W1 W') ∨ (e = .returned (.bool false) ∧ Jx (pre ++ [x]) W'))
    (hb : Below w.heap.size w W) (hb0 : W.heap[B]? = some (.cells #[.slice A zs.length c] 22 (0, 0))) (h0 : J [] W) :
    CallsIn Fence.wide n Tryd.prog 64 #[.func (.yield l) #[] #[], .pointer (some ⟨B, 0, none⟩)] W fun e W' => (∃ v, e = .returned v) ∧
      ((∃ ys, ys = backs zs zs.length ∧ J ys W') ∨ (∃ pre, True ∧ Jx pre W')) := by
  have hmax : zs.length ≤ 9223372036854775807 := hr.2.1
  have HR := Aside0.mk hr
  have HZ := Aside0.mk hz
  have HY := Aside0.mk hY
  have HB := Aside0.mk hb
  have H0 := Aside0.mk hb0
  have HJ0 := Aside0.mk h0
  have g0 : W.cell? ⟨B, 0, none⟩ = some (.slice A zs.length c) := (blk_cell hb0 0).trans rfl
  clear hr hz hY hb hb0 h0
  refine callsIn_of_wp Tryd.func64 rfl trivial ?_ rfl
  simp only [Tryd.ntmps64, List.size_toArray, List.length_cons, List.length_nil, Nat.reduceAdd, Nat.reduceSub, Array.replicate_succ, Array.replicate_zero, List.push_toArray, List.append_toArray, List.nil_append, List.cons_append]
  gi_wp2
  gi_loopw [3] (fun vi wr => ∃ k : Nat, k ≤ zs.length ∧ vi = .int .i64 ((zs.length : Int) - 1 - (k : Int)) ∧ Aside0 (J (backs zs k) wr ∧ Below w.heap.size w wr ∧ wr.heap[B]? = some (.cells #[.slice A zs.length c] 22 (0, 0))))
    (fun vi _ => (intOf vi + 1).toNat)
  case atStart => exact ⟨0, Nat.zero_le _, by simp, ⟨HJ0.out, HB.out, H0.out⟩⟩
  case round =>
    obtain ⟨k, hk, rfl, HI⟩ := hrel
    obtain ⟨hj, hbw, hw0⟩ := HI.out
    have g1 : wr.cell? ⟨B, 0, none⟩ = some (.slice A zs.length c) := (blk_cell hw0 0).trans rfl
    by_cases hlt : k < zs.length
    · obtain ⟨m, hm⟩ : ∃ m : Nat, m = zs.length - 1 - k := ⟨_, rfl⟩
      have hmi : (zs.length : Int) - 1 - (k : Int) = (m : Int) := by omega
      have hml : m < zs.length := by omega
      obtain ⟨ad, rfl, hcell⟩ := Kd.at_int (Kd.C_below HR.out hbw) (m : Int) (by omega) (by omega)
      rw [Int.toNat_natCast] at hcell
      have hg : backG zs k = ⟨((m : Int), rd zs (m : Int)), all_rd HZ.out hml⟩ := by
        unfold backG
        rw [← hm, dif_pos (all_rd HZ.out hml)]
      obtain ⟨fn, tmps, assign, body, hy, hR⟩ := HY.out _ (backG zs k) wr hj (by rw [backs_len]; exact hlt)
      rw [hg] at hy
      simp only [backV] at hy
      have HS := Aside0.mk (backs_succ zs k)
      have HRR := Aside0.mk hR
      have HBW := Aside0.mk hbw
      have HW0 := Aside0.mk hw0
      have HM := Aside0.mk hm
      clear hj hbw hw0 HI hg hR hm
      rw [hmi]
      gi_wp2
      refine HRR.out.mono ?_
      rintro e W3 (⟨rfl, hJ3, hk3⟩ | ⟨rfl, hJx3⟩)
      · have HJ3 := Aside0.mk hJ3
        have HK3 := Aside0.mk hk3
        clear hJ3 hk3
        gi_wp2
        go_roundw
        case rel => exact ⟨k + 1, by omega, by have := HM.out; congr 1; omega, ⟨by rw [HS.out]; exact HJ3.out, HBW.out.trans HK3.out.1, HK3.out.2 _ HW0.out⟩⟩
        case measure => simp [intOf]
      · gi_wp2
        refine bodyPost_ret (results_none rfl _ _ _) rfl ?_
        exact ⟨⟨_, rfl⟩, .inr ⟨_, trivial, hJx3⟩⟩
    · have hkl : k = zs.length := by omega
      have hmi : (zs.length : Int) - 1 - (k : Int) = -1 := by omega
      have HKL := Aside0.mk hkl
      have HJ := Aside0.mk hj
      clear hkl hj hbw hw0 HI
      rw [hmi]
      gi_wp2
      go_end0
      exact ⟨⟨_, rfl⟩, .inl ⟨_, rfl, by rw [← HKL.out]; exact HJ.out⟩⟩
theorem back_stops (n : Nat) (hn : 1 ≤ n) (B : Nat) (A : Option Addr) (c : Nat) (zs : List Int) (w w0 : World) (hr : Kd.C (Kd.int .u8) w A zs.length zs) (hz : zs.all elB = true)
    (hb : Below w.heap.size w w0) (hb0 : w0.heap[B]? = some (.cells #[.slice A zs.length c] 22 (0, 0))) :
    SeqStopsK Fence.wide n Tryd.prog 64 #[.pointer (some ⟨B, 0, none⟩)] backV (KpB w.heap.size B) (fun ys => ys = backs zs zs.length) (fun _ => True) zs.length w0 := by
  intro l J Jx W hW hJ hJx hY h0
  exact back_in n hn l B A c zs w J Jx hr hz W hY (below_then hb hb.size hW) (blk_below hb0 hW) h0
theorem back62 (A : Option Addr) (c n : Nat) (w : World) : Calls Tryd.prog 62 #[.slice A n c] w fun e w' => e = .returned (.func (.func 64) #[] #[.pointer (some ⟨w.heap.size, 0, none⟩)]) ∧ w' = w.alloc (.cells #[.slice A n c] 22) := by
  go_enter Tryd.func62, Tryd.ntmps62
  go_wp2
  go_ret
  exact ⟨rfl, rfl⟩
def bx (a b : Int) : Int := Go.bits .xor .u8 a b
/-- The value of a polynomial by Horner's rule, the last coefficient first. -/
def hornL (x : Int) : List Int → Int
  | [] => 0
  | a :: l => bx (mI (hornL x l) x) a
theorem bx_nat {a b : Nat} (ha : a < 256) (hb : b < 256) : bx (a : Int) (b : Int) = ((a ^^^ b : Nat) : Int) := by
  have ha' : a % 2 ^ IntKind.u8.bits = a := Nat.mod_eq_of_lt ha
  have hb' : b % 2 ^ IntKind.u8.bits = b := Nat.mod_eq_of_lt hb
  have hx : a ^^^ b < 256 := Nat.xor_lt_two_pow (n := 8) ha hb
  unfold bx
  simp only [bits, BitVec.ofInt_natCast, BitVec.toNat_xor, BitVec.toNat_ofNat, ha', hb']
  exact wraps_u8 _ (Int.natCast_nonneg _) (by exact_mod_cast hx)
theorem bx_el {a b : Int} (ha : elB a = true) (hb : elB b = true) : bx a b = ((a.toNat ^^^ b.toNat : Nat) : Int) := by
  rw [elB_iff] at ha hb
  have := bx_nat (a := a.toNat) (b := b.toNat) (by omega) (by omega)
  rwa [show ((a.toNat : Nat) : Int) = a by omega, show ((b.toNat : Nat) : Int) = b by omega] at this
theorem el_bx {a b : Int} (ha : elB a = true) (hb : elB b = true) : elB (bx a b) = true := by
  rw [bx_el ha hb]
  rw [elB_iff] at *
  have : a.toNat ^^^ b.toNat < 64 := xor_lt (by omega) (by omega)
  omega
theorem el_mI (a b : Int) : elB (mI a b) = true := by
  rw [elB_iff]
  have := ml_lt a.toNat b.toNat
  unfold mI
  omega
def valOf (x : Int) (pre : List BackEl) : Int := pre.foldl (fun out y => bx (mI out x) y.1.2) 0
theorem valOf_snoc (x : Int) (pre : List BackEl) (y : BackEl) : valOf x (pre ++ [y]) = bx (mI (valOf x pre) x) y.1.2 := by simp [valOf]
theorem valOf_el (x : Int) : ∀ (pre : List BackEl) (out : Int), elB out = true → elB (pre.foldl (fun out y => bx (mI out x) y.1.2) out) = true
  | [], _, h => h
  | y :: pre, out, _ => valOf_el x pre _ (el_bx (el_mI _ _) y.2)
theorem valOf_backs (x : Int) (l : List Int) (hl : l.all elB = true) : ∀ k, k ≤ l.length → valOf x (backs l k) = hornL x (l.drop (l.length - k))
  | 0, _ => by simp [backs, valOf, hornL]
  | k + 1, h => by
    have hm : l.length - 1 - k < l.length := by omega
    have hg : (backG l k).1.2 = rd l ((l.length - 1 - k : Nat) : Int) := by
      unfold backG
      rw [dif_pos (all_rd hl hm)]
    rw [backs_succ, valOf_snoc, valOf_backs x l hl k (by omega), hg, show l.length - (k + 1) = l.length - 1 - k by omega, List.drop_eq_getElem_cons hm, hornL, show l.length - 1 - k + 1 = l.length - k by omega]
    congr 1
    simp [rd, List.getD_eq_getElem?_getD, List.getElem?_eq_getElem hm]
def field_eval.f (l0 : List Int) (a1 : Int) : Option Int := if (l0.all elB && elB a1) = true then some (hornL a1 l0) else none
set_option maxHeartbeats 4000000 in
theorem field_eval.calls (A0 : Option Addr) (c0 : Nat) (l0 : List Int) (a1 : Int) (r : Int) (w : World) (hr0 : Kd.C (Kd.int .u8) w A0 l0.length l0) (hc0 : l0.length ≤ c0) (hT : Kd.C (Kd.int .u8) w (some ⟨0, 0, none⟩) 63 pwI) (h : field_eval.f l0 a1 = some r) :
    Calls Tryd.prog 55 #[.slice A0 l0.length c0, .int .u8 a1] w fun e w' => e = .returned (.int .u8 r) ∧ Below w.heap.size w w' := by
  have HR0 := Aside0.mk hr0
  have HT := Aside0.mk hT
  clear hr0 hT
  unfold field_eval.f at h
  split at h
  · rename_i hall
    simp only [Bool.and_eq_true] at hall
    obtain ⟨hl, hx⟩ := hall
    injection h with h
    have HL := Aside0.mk hl
    have HX := Aside0.mk hx
    have H := Aside0.mk h
    clear hl hx h
    refine callsIn_wide.1 (callsIn_of_wp_marks (n := 9) Tryd.func55 rfl trivial (wpIn_wide.2 ?_) rfl)
    simp only [Tryd.ntmps55, List.size_toArray, List.length_cons, List.length_nil, Nat.reduceAdd, Nat.reduceSub, Array.replicate_succ, Array.replicate_zero, List.push_toArray, List.append_toArray, List.nil_append, List.cons_append]
    go_wp2_with (go_at_call 62; refine (back62 _ _ _ _).mono ?_; rintro e w' ⟨rfl, rfl⟩)
    obtain ⟨W0, hW0⟩ : ∃ W0, ((w.alloc (.cells #[.int .u8 a1] 5)).alloc (.cells #[.int .u8 0] 5)).alloc (.cells #[.slice A0 l0.length c0] 22) = W0 := ⟨_, rfl⟩
    have hb0 : W0.heap[w.heap.size]? = some (.cells #[.int .u8 a1] 5 (0, 0)) := by rw [← hW0]; exact blk_alloc (blk_alloc (blk_new _ _) _) _
    have hb1 : W0.heap[w.heap.size + 1]? = some (.cells #[.int .u8 0] 5 (0, 0)) := by
      rw [← hW0]
      refine blk_alloc ?_ _
      have := blk_new (w.alloc (.cells #[.int .u8 a1] 5)) (.cells #[.int .u8 0] 5)
      rwa [World.size_alloc] at this
    have hb2 : W0.heap[w.heap.size + 1 + 1]? = some (.cells #[.slice A0 l0.length c0] 22 (0, 0)) := by
      rw [← hW0]
      have := blk_new ((w.alloc (.cells #[.int .u8 a1] 5)).alloc (.cells #[.int .u8 0] 5)) (.cells #[.slice A0 l0.length c0] 22)
      rwa [World.size_alloc, World.size_alloc] at this
    have hbw : Below w.heap.size w W0 := by rw [← hW0]; exact below_alloc (below_alloc (below_alloc (Below.refl _ _) _) _) _
    have hsz : W0.heap.size = w.heap.size + 3 := by rw [← hW0]; simp
    rw [hW0]
    clear hW0
    obtain ⟨g, hg⟩ : ∃ g, g = w.heap.size := ⟨_, rfl⟩
    rw [← hg] at hb0 hb1 hb2 ⊢
    have HG := Aside0.mk hg
    clear hg
    refine wpIn_wide.1 (wpIn_rangeFunc_ownF (α := BackEl) (n := 9) (w := W0) rfl (by omega) (gf := 64) (lb := #[.pointer (some ⟨g + 1 + 1, 0, none⟩)]) rfl trivial (enters_of Tryd.func64 (by kernel_rfl) rfl)
      (back_stops 8 (by omega) (g + 1 + 1) A0 c0 l0 w W0 HR0.out HL.out hbw hb2) (fun h k => KpB.trans h k) ?hKb (Below.refl _ _) (fun _ => rfl)
      (fun pre W => (W.heap[g]? = some (.cells #[.int .u8 a1] 5 (0, 0)) ∧ W.heap[g + 1]? = some (.cells #[.int .u8 (valOf a1 pre)] 5 (0, 0))) ∧ Below w.heap.size w W) (fun _ _ _ => False)
      ?hI (fun _ _ _ _ _ hs _ _ => hs) ⟨⟨hb0, hb1⟩, hbw⟩
      (fun x => { tmps := #[.slice A0 l0.length c0, .int .u8 a1, undef, .pointer (some ⟨g, 0, none⟩), .int .u8 0, .pointer (some ⟨g + 1, 0, none⟩), undef, .int .u8 x.1.2, .slice A0 l0.length c0, .func (.func 64) #[] #[.pointer (some ⟨g + 1 + 1, 0, none⟩)], .int .i64 x.1.1, .int .u8 x.1.2, undef, undef, undef, undef, undef, undef], defers := [] }) ?assign ?body ?done ?stop)
    case hKb =>
      intro W l o o' hl ho hoc _
      have hg := HG.out
      refine ⟨belowK_b (w := W0) (by omega) W l o o' hl ho hoc (by assumption), fun o1 hi => ?_⟩
      refine ((grownBy_putObj' W l o').block _ (blk_lt hi) (fun e => ?_)).trans hi
      have e1 : g + 1 + 1 = l := by simpa using e
      omega
    case hI =>
      intro s X Y row ⟨⟨h1, h2⟩, h3⟩ hgr hr
      have ne : ∀ (i : Nat) (o : Obj), X.heap[i]? = some o → o.isCells = true → some i ≠ row := fun i o ho hc e => by
        obtain ⟨_, o', ho', hc'⟩ := hr i e.symm
        rw [ho] at ho'
        cases ho'
        rw [hc] at hc'
        cases hc'
      exact ⟨⟨blk_grown h1 hgr (ne _ _ h1 rfl), blk_grown h2 hgr (ne _ _ h2 rfl)⟩, h3.grown hgr h3.size (fun k e => by have := (hr k e).1; omega)⟩
    case assign =>
      intro l x W K hK
      simp only [backV]
      gi_wp2
      exact hK
    case body =>
      rintro l pre x W ⟨⟨h1, h2⟩, h3⟩ _
      have q1 : W.cell? ⟨g, 0, none⟩ = some (.int .u8 a1) := (blk_cell h1 0).trans rfl
      have q2 : W.cell? ⟨g + 1, 0, none⟩ = some (.int .u8 (valOf a1 pre)) := (blk_cell h2 0).trans rfl
      have qf := blk_frozen h2 0
      have HM := Aside0.mk (mul_mI (show elB (valOf a1 pre) = true from valOf_el a1 pre 0 (by decide)) HX.out)
      have HS := Aside0.mk (valOf_snoc a1 pre x)
      have H1 := Aside0.mk h1
      have H2 := Aside0.mk h2
      have H3 := Aside0.mk h3
      have HTW := Aside0.mk (Kd.C_below HT.out h3)
      clear h1 h2 h3
      gi_wp2_with (refine ⟨trivial, ?_⟩; gi_at_call 53; refine (CallsIn.inRound l (callsIn_wide.2 (field_mul.calls (valOf a1 pre) a1 _ _ HTW.out HM.out))).mono ?_; rintro e w' ⟨rfl, hd⟩; obtain ⟨nd, rfl⟩ := hd)
      have hg := HG.out
      have hd : Below w.heap.size W (W.drewN nd) := (Drawn0.mk ⟨nd, rfl⟩ : Drawn0 W (W.drewN nd)).below.mono H3.out.size
      have hs : Below w.heap.size W ((W.drewN nd).setCell ⟨g + 1, 0, none⟩ (.int .u8 (bx (mI (valOf a1 pre) a1) x.1.2))) := hd.setCell (by simp only; omega) _
      refine ⟨(KeepsOthers.of_grownBy (grown_of_below (Drawn0.mk ⟨nd, rfl⟩ : Drawn0 W (W.drewN nd)).below none) (fun _ _ e => by cases e)).trans (KeepsOthers.setCell _ _ _), ⟨hs, fun o ho => ?_⟩, ⟨blk_far (blk_drewN H1.out _) (by simp only; omega) _, ?_⟩, H3.out.trans hs⟩
      · exact (Below.heap_setCell _ _ _ _ (by simp only; omega)).trans (blk_drewN ho nd)
      · rw [HS.out]
        exact blk_put (blk_drewN H2.out nd) 0 _ rfl
    case done =>
      rintro D ys W hD hys ⟨⟨h1, h2⟩, hB⟩ hK
      have hv : valOf a1 ys = r := by rw [hys, valOf_backs a1 l0 HL.out _ (Nat.le_refl _), Nat.sub_self, List.drop_zero]; exact H.out
      rw [hv] at h2
      have q2 : W.cell? ⟨g + 1, 0, none⟩ = some (.int .u8 r) := (blk_cell h2 0).trans rfl
      clear hys hv
      go_wp2
      refine ⟨by simp, .inl ⟨_, _, rfl, run_takeDeferred hK, ?_⟩⟩
      exact ⟨_, results_tmp rfl _ _ _, rfl, hB.trans (belowK_b (w := W0) (by omega) W D _ _ hD hK rfl rfl)⟩
    case stop =>
      rintro D c pre W _ _ h _
      exact h.elim
  · cases h
end Go.Proofs.YtehgfpfmpkmdmaaDoor.Print

namespace Go.Proofs.YtehgfpfmpkmdmaaDoor.Print
open Go.RowKit Go.Proofs.YtehgfpfmpkmdmaaDoorW.PrintWords Go.Proofs.YtehgfpfmpkmdmaaDoorW.PrintLast Go.Proofs.YtehgfpfmpkmdmaaDoorW.PrintMore
attribute [local go_sem] max2_int min2_int max_two min_two max_three min_three max_four min_four   -- for this text's walks alone
set_option linter.unusedVariables false
set_option linter.unusedSimpArgs false
def field_Roots.l0 : Nat → List Int → List Int → Int → Option (List Int × Int)
  | 0, _, _, _ => none
  | k + 1, x0, x5, x17 => if x17 < 64 then ((field_eval.f x0 x17).bind fun t172 => (if t172 = 0 then (if x5.length < 140737488355328 then (field_Roots.l0 k x0 (x5 ++ [x17]) ((x17 + 1) % 256)) else (none)) else (field_Roots.l0 k x0 x5 ((x17 + 1) % 256)))) else (some (x5, 0))
def field_Roots.f (k : Nat) (l0 : List Int) : Option (List Int × Int) := (field_check.f (([l0] : List (List Int)))).bind fun t168 => (if t168 = 0 then ((field_trim.f k l0).bind fun t169 => (if (t169.length : Int) = 0 then (some (([] : List Int), 6)) else (field_Roots.l0 k l0 ([] : List Int) 0))) else (some (([] : List Int), t168)))
set_option maxHeartbeats 8000000 in
set_option maxRecDepth 100000 in
theorem field_Roots.calls (k : Nat) (P0_ : Nat → Prop) (A0 : Option Addr) (c0 : Nat) (l0 : List Int) (r1 : List Int) (r2 : Int) (w : World) (hs0 : Kd.V (Kd.int .u8) 5 w w.heap.size (fun k_ => P0_ k_) (.slice A0 l0.length c0) l0) (hT : Kd.C (Kd.int .u8) w (some ⟨0, 0, none⟩) 63 pwI) (h : field_Roots.f k l0 = some (r1, r2)) :
    Calls Tryd.prog 39 #[.slice A0 l0.length c0] w fun e w' => ∃ v0_ : Value, e = .returned (.tuple #[v0_, .int .i64 r2]) ∧ Kd.R (Kd.int .u8) 5 w' w.heap.size (fun k_ => (w.heap.size ≤ k_)) v0_ r1 ∧ Below w.heap.size w w' := by
  have HO0 := Aside0.mk (show Kd.V (Kd.int .u8) 5 w w.heap.size (fun k_ => (P0_ k_ ∨ w.heap.size ≤ k_)) (.slice A0 l0.length c0) l0 from Kd.V_mono hs0 (fun k_ hk => .inl hk))
  have HRT := Aside0.mk hT
  clear hT
  have HB := Aside0.mk (Below.refl w.heap.size w)
  have H : ((field_check.f (([l0] : List (List Int)))).bind fun t168 => (if t168 = 0 then ((field_trim.f k l0).bind fun t169 => (if (t169.length : Int) = 0 then (some (([] : List Int), 6)) else (field_Roots.l0 k l0 ([] : List Int) 0))) else (some (([] : List Int), t168)))) = some (r1, r2) := h
  clear h
  obtain ⟨y165, hy165⟩ : ∃ y_ : List (List Int), y_ = (([l0] : List (List Int))) := ⟨_, rfl⟩
  replace H : ((field_check.f y165).bind fun t168 => (if t168 = 0 then ((field_trim.f k l0).bind fun t169 => (if (t169.length : Int) = 0 then (some (([] : List Int), 6)) else (field_Roots.l0 k l0 ([] : List Int) 0))) else (some (([] : List Int), t168)))) = some (r1, r2) := by first | (rw [hy165]; with_reducible exact H) | (have H2_ := (Option.bind_some _ _).symm.trans H; rw [hy165]; with_reducible exact H2_) | (have H2_ := (Option.bind_some _ _).symm.trans H; with_reducible exact H2_) | with_reducible exact H | (rw [hy165]; exact H) | exact H
  have Ny165 := Aside0.mk hy165
  clear hy165
  replace H := Option.bind_eq_some_iff.mp H
  obtain ⟨t168, A20, H⟩ := H
  replace H : (if t168 = 0 then ((field_trim.f k l0).bind fun t169 => (if (t169.length : Int) = 0 then (some (([] : List Int), 6)) else (field_Roots.l0 k l0 ([] : List Int) 0))) else (some (([] : List Int), t168))) = some (r1, r2) := H
  have A2 := Aside0.mk A20
  clear A20
  by_cases c3 : t168 = 0
  · rw [if_pos c3] at H
    have c3b0 : (t168 == 0) = true := beq_iff_eq.mpr c3
    have c3b1 : (t168 != 0) = false := bne_eq_false_iff_eq.mpr c3
    clear c3
    replace H := Option.bind_eq_some_iff.mp H
    obtain ⟨t169, A40, H⟩ := H
    replace H : (if (t169.length : Int) = 0 then (some (([] : List Int), 6)) else (field_Roots.l0 k l0 ([] : List Int) 0)) = some (r1, r2) := H
    have A4 := Aside0.mk A40
    clear A40
    by_cases c5 : (t169.length : Int) = 0
    · rw [if_pos c5] at H
      have c5b0 : ((t169.length : Int) == 0) = true := beq_iff_eq.mpr c5
      have c5b1 : ((t169.length : Int) != 0) = false := bne_eq_false_iff_eq.mpr c5
      clear c5
      simp only [Option.some.injEq, Prod.mk.injEq] at H
      obtain ⟨rfl, rfl⟩ := H
      go_enter Tryd.func39, Tryd.ntmps39
      go_wp2_with (first | ((with_reducible refine gate_dst (N := 8) rfl ?_); refine Kd.N_lit (Kd.slice 5 (Kd.int .u8)) _ 22 ?hg (N' := 8) ?hd (xs := ([l0] : List (List Int))) (inner := [.slice A0 l0.length c0]) (ok := (fun k_ => (P0_ k_ ∨ w.heap.size ≤ k_))) (okp := (fun k_ => (P0_ k_ ∨ w.heap.size ≤ k_))) ?hr ?hp (fun _ hk => hk) ((show ∀ k_, w.heap.size ≤ k_ → (fun k_ => (P0_ k_ ∨ w.heap.size ≤ k_)) k_ from fun k_ hk => (.inr (Nat.le_trans (below_size (by repeat (first | (with_reducible first | exact HB.out | apply below_alloc | apply pw_below_drewN | apply below_drew1) | exact HB.out))) hk))) _ (Nat.le_refl _)) (Below.refl _ _) (Nat.le_refl _) (by simp) ?_; (case hd => rfl); (case hg => rfl); (case hr => first | (go_simp; done) | (go_simp; rfl)); (case hp => exact (Reps.one (show Kd.FK (Kd.slice 5 (Kd.int .u8)) _ _ l0 [.slice A0 l0.length c0] from (Kd.FK_slice_mk (Kd.V_reads' (Kd.V_mono (ok' := (fun k_ => (P0_ k_ ∨ w.heap.size ≤ k_))) (HO0.out) (fun k_ hk => hk))).2.1 (Kd.V_F (Kd.V_mono (ok' := (fun k_ => (P0_ k_ ∨ w.heap.size ≤ k_))) (HO0.out) (fun k_ hk => hk))))) (Reps.none _ _))); intro v166 w6 ho7 hb hg_ hnew_; clear hg_ hnew_; (first | rw [← Ny165.out] at ho7 | (simp only [Int.reduceToNat] at ho7; rw [← Ny165.out] at ho7)); have n0_ := Aside0.mk (Kd.V_elder' (by (with_reducible repeat (first | apply Kd.V_alloc | apply Kd.V_drewN | apply Kd.V_drew)); exact HO0.out) (Kd.N_base ho7) hb); have n1_ := Aside0.mk (Kd.N_lower ho7 (below_size (by repeat (first | (with_reducible first | exact HB.out | apply below_alloc | apply pw_below_drewN | apply below_drew1) | exact HB.out)))); have n2_ := Aside0.mk (below_step (by repeat (first | (with_reducible first | exact HB.out | apply below_alloc | apply pw_below_drewN | apply below_drew1) | exact HB.out)) hb); clear HO0; clear HB; have HO0 := n0_; have HO167 := n1_; have HB := n2_; clear n0_ n1_ n2_; clear hb ho7; obtain ⟨Ao8, co8, eo8⟩ := Kd.N_slice HO167.out; subst eo8) | ((with_reducible refine gate_callee (f := 45) rfl ?_); refine goesL_ (some 9) rfl rfl Tryd.func45 (by kernel_rfl) rfl #[.slice Ao8 y165.length co8] rfl (by (try simp only [List.map_toArray, List.map_cons, List.map_nil]); first | done | rfl | (simp only [List.length_drop, List.length_take]; rfl)) ?_; (with_reducible refine (field_check.calls _ _ y165 t168 _ ?side1 ?side2 A2.out).mono ?_); (case side1 => repeat (first | exact (Kd.N_reads' HO167.out).2.2 | (with_reducible refine Kd.C_alloc ?_ _) | (with_reducible refine Kd.C_drewN ?_ _) | (with_reducible refine Kd.C_drew ?_))); (case side2 => exact (Kd.N_reads' HO167.out).2.1); rintro e w' ⟨rfl, ⟨nd, rfl⟩⟩; refine ⟨_, rfl, ?_⟩) | ((with_reducible refine gate_callee (f := 46) rfl ?_); refine goesL_ (some 14) rfl rfl Tryd.func46 (by kernel_rfl) rfl #[.slice A0 l0.length c0] rfl (by (try simp only [List.map_toArray, List.map_cons, List.map_nil]); first | done | rfl | (simp only [List.length_drop, List.length_take]; rfl)) ?_; (with_reducible refine (field_trim.calls k _ _ l0 t169 _ ?side1 ?side2 A4.out).mono ?_); (case side1 => repeat (first | exact (Kd.V_reads' HO0.out).2.2 | (with_reducible refine Kd.C_alloc ?_ _) | (with_reducible refine Kd.C_drewN ?_ _) | (with_reducible refine Kd.C_drew ?_))); (case side2 => exact (Kd.V_reads' HO0.out).2.1); rintro e w9 ⟨v170, rfl, ho0, hb⟩; refine ⟨_, rfl, ?_⟩; have n0_ := Aside0.mk (Kd.V_elder' (by (with_reducible repeat (first | apply Kd.V_alloc | apply Kd.V_drewN | apply Kd.V_drew)); exact HO0.out) (Kd.R_base ho0) hb); have n1_ := Aside0.mk (Kd.N_elder' (by (with_reducible repeat (first | apply Kd.N_alloc | apply Kd.N_drewN | apply Kd.N_drew)); exact HO167.out) (Kd.R_base ho0) hb); have n2_ := Aside0.mk (Kd.R_lower (Kd.R_newM (M := fun k_ => (w.heap.size ≤ k_)) ho0 (below_size (by repeat (first | (with_reducible first | exact HB.out | apply below_alloc | apply pw_below_drewN | apply below_drew1) | exact HB.out))) (fun k_ h_ => h_)) (below_size (by repeat (first | (with_reducible first | exact HB.out | apply below_alloc | apply pw_below_drewN | apply below_drew1) | exact HB.out)))); have n3_ := Aside0.mk (below_step (by repeat (first | (with_reducible first | exact HB.out | apply below_alloc | apply pw_below_drewN | apply below_drew1) | exact HB.out)) hb); clear HO0; clear HO167; clear HB; have HO0 := n0_; have HO167 := n1_; have HO171 := n2_; have HB := n3_; clear n0_ n1_ n2_ n3_; (try clear hb); (try clear hb2); (try clear hk); (try clear hi); (try clear ho0); obtain ⟨Ao10, co10, eo10⟩ := Kd.R_slice HO171.out; subst eo10))
      go_ret2
      exact ⟨_, by first | rfl | (simp [errW_none, errW_some] <;> rfl) | (simp [*, errW_none, errW_some] <;> rfl), by first | exact Kd.R_nil _ _ _ _ _ | exact Kd.N_nil _ _ _ _ _ | exact Kd.V_nil _ _ _ _ _ | exact Kd.Q_nil _ _ _ _ _ | exact Kd.S_nil _ _ _ _ _, by repeat (first | (with_reducible first | exact HB.out | apply below_alloc | apply pw_below_drewN | apply below_drew1) | exact HB.out)⟩
    · rw [if_neg c5] at H
      have c5b0 : ((t169.length : Int) == 0) = false := beq_eq_false_iff_ne.mpr c5
      have c5b1 : ((t169.length : Int) != 0) = true := bne_iff_ne.mpr c5
      have c5b2 : ¬ (t169 = []) := fun h_ => c5 (by rw [h_]; rfl)
      have H' := Aside0.mk H
      clear H
      go_enter Tryd.func39, Tryd.ntmps39
      go_wp2_with (first | ((with_reducible refine gate_dst (N := 8) rfl ?_); refine Kd.N_lit (Kd.slice 5 (Kd.int .u8)) _ 22 ?hg (N' := 8) ?hd (xs := ([l0] : List (List Int))) (inner := [.slice A0 l0.length c0]) (ok := (fun k_ => (P0_ k_ ∨ w.heap.size ≤ k_))) (okp := (fun k_ => (P0_ k_ ∨ w.heap.size ≤ k_))) ?hr ?hp (fun _ hk => hk) ((show ∀ k_, w.heap.size ≤ k_ → (fun k_ => (P0_ k_ ∨ w.heap.size ≤ k_)) k_ from fun k_ hk => (.inr (Nat.le_trans (below_size (by repeat (first | (with_reducible first | exact HB.out | apply below_alloc | apply pw_below_drewN | apply below_drew1) | exact HB.out))) hk))) _ (Nat.le_refl _)) (Below.refl _ _) (Nat.le_refl _) (by simp) ?_; (case hd => rfl); (case hg => rfl); (case hr => first | (go_simp; done) | (go_simp; rfl)); (case hp => exact (Reps.one (show Kd.FK (Kd.slice 5 (Kd.int .u8)) _ _ l0 [.slice A0 l0.length c0] from (Kd.FK_slice_mk (Kd.V_reads' (Kd.V_mono (ok' := (fun k_ => (P0_ k_ ∨ w.heap.size ≤ k_))) (HO0.out) (fun k_ hk => hk))).2.1 (Kd.V_F (Kd.V_mono (ok' := (fun k_ => (P0_ k_ ∨ w.heap.size ≤ k_))) (HO0.out) (fun k_ hk => hk))))) (Reps.none _ _))); intro v166 w11 ho12 hb hg_ hnew_; clear hg_ hnew_; (first | rw [← Ny165.out] at ho12 | (simp only [Int.reduceToNat] at ho12; rw [← Ny165.out] at ho12)); have n0_ := Aside0.mk (Kd.V_elder' (by (with_reducible repeat (first | apply Kd.V_alloc | apply Kd.V_drewN | apply Kd.V_drew)); exact HO0.out) (Kd.N_base ho12) hb); have n1_ := Aside0.mk (Kd.N_lower ho12 (below_size (by repeat (first | (with_reducible first | exact HB.out | apply below_alloc | apply pw_below_drewN | apply below_drew1) | exact HB.out)))); have n2_ := Aside0.mk (below_step (by repeat (first | (with_reducible first | exact HB.out | apply below_alloc | apply pw_below_drewN | apply below_drew1) | exact HB.out)) hb); clear HO0; clear HB; have HO0 := n0_; have HO167 := n1_; have HB := n2_; clear n0_ n1_ n2_; clear hb ho12; obtain ⟨Ao13, co13, eo13⟩ := Kd.N_slice HO167.out; subst eo13) | ((with_reducible refine gate_callee (f := 45) rfl ?_); refine goesL_ (some 9) rfl rfl Tryd.func45 (by kernel_rfl) rfl #[.slice Ao13 y165.length co13] rfl (by (try simp only [List.map_toArray, List.map_cons, List.map_nil]); first | done | rfl | (simp only [List.length_drop, List.length_take]; rfl)) ?_; (with_reducible refine (field_check.calls _ _ y165 t168 _ ?side1 ?side2 A2.out).mono ?_); (case side1 => repeat (first | exact (Kd.N_reads' HO167.out).2.2 | (with_reducible refine Kd.C_alloc ?_ _) | (with_reducible refine Kd.C_drewN ?_ _) | (with_reducible refine Kd.C_drew ?_))); (case side2 => exact (Kd.N_reads' HO167.out).2.1); rintro e w' ⟨rfl, ⟨nd, rfl⟩⟩; refine ⟨_, rfl, ?_⟩) | ((with_reducible refine gate_callee (f := 46) rfl ?_); refine goesL_ (some 14) rfl rfl Tryd.func46 (by kernel_rfl) rfl #[.slice A0 l0.length c0] rfl (by (try simp only [List.map_toArray, List.map_cons, List.map_nil]); first | done | rfl | (simp only [List.length_drop, List.length_take]; rfl)) ?_; (with_reducible refine (field_trim.calls k _ _ l0 t169 _ ?side1 ?side2 A4.out).mono ?_); (case side1 => repeat (first | exact (Kd.V_reads' HO0.out).2.2 | (with_reducible refine Kd.C_alloc ?_ _) | (with_reducible refine Kd.C_drewN ?_ _) | (with_reducible refine Kd.C_drew ?_))); (case side2 => exact (Kd.V_reads' HO0.out).2.1); rintro e w14 ⟨v170, rfl, ho0, hb⟩; refine ⟨_, rfl, ?_⟩; have n0_ := Aside0.mk (Kd.V_elder' (by (with_reducible repeat (first | apply Kd.V_alloc | apply Kd.V_drewN | apply Kd.V_drew)); exact HO0.out) (Kd.R_base ho0) hb); have n1_ := Aside0.mk (Kd.N_elder' (by (with_reducible repeat (first | apply Kd.N_alloc | apply Kd.N_drewN | apply Kd.N_drew)); exact HO167.out) (Kd.R_base ho0) hb); have n2_ := Aside0.mk (Kd.R_lower (Kd.R_newM (M := fun k_ => (w.heap.size ≤ k_)) ho0 (below_size (by repeat (first | (with_reducible first | exact HB.out | apply below_alloc | apply pw_below_drewN | apply below_drew1) | exact HB.out))) (fun k_ h_ => h_)) (below_size (by repeat (first | (with_reducible first | exact HB.out | apply below_alloc | apply pw_below_drewN | apply below_drew1) | exact HB.out)))); have n3_ := Aside0.mk (below_step (by repeat (first | (with_reducible first | exact HB.out | apply below_alloc | apply pw_below_drewN | apply below_drew1) | exact HB.out)) hb); clear HO0; clear HO167; clear HB; have HO0 := n0_; have HO167 := n1_; have HO171 := n2_; have HB := n3_; clear n0_ n1_ n2_ n3_; (try clear hb); (try clear hb2); (try clear hk); (try clear hi); (try clear ho0); obtain ⟨Ao15, co15, eo15⟩ := Kd.R_slice HO171.out; subst eo15))
      go_loopg [5, 17] k (fun kq v5 v17 w' => ∃ (x5_1 : List Int) (x17_1 : Int), v17 = .int .u8 x17_1 ∧ Aside0 (field_Roots.l0 kq l0 x5_1 x17_1 = some (r1, r2)) ∧ Aside0 (kq ≤ k) ∧ Aside0 (Kd.V (Kd.int .u8) 5 w' w.heap.size (fun k_ => (P0_ k_ ∨ w.heap.size ≤ k_) ∧ some k_ ≠ (v5 : Value).ownBlock) (.slice A0 l0.length c0) l0) ∧ Aside0 (Kd.R (Kd.int .u8) 5 w' w.heap.size (fun k_ => (w.heap.size ≤ k_)) v5 x5_1) ∧ Aside0 (Below w.heap.size w w'))
      case atStart => exact ⟨(([] : List Int)), (0), (by first | rfl | (simp; done) | (simp [*]; done)), H', ⟨Nat.le_refl _⟩, ⟨by (with_reducible repeat (first | apply Kd.V_alloc | apply Kd.V_drewN | apply Kd.V_drew)); exact Kd.V_mono HO0.out (fun _ hk => ⟨hk.1.1, (by simp [Value.ownBlock])⟩)⟩, ⟨by first | exact Kd.R_nil _ _ _ _ _ | exact Kd.N_nil _ _ _ _ _ | exact Kd.V_nil _ _ _ _ _ | exact Kd.Q_nil _ _ _ _ _ | exact Kd.S_nil _ _ _ _ _⟩, ⟨by repeat (first | (with_reducible first | exact HB.out | apply below_alloc | apply pw_below_drewN | apply below_drew1) | exact HB.out)⟩⟩
      case round =>
        clear H'
        try clear p2
        try clear c3
        try clear c3b0
        try clear c3b1
        try clear c4
        try clear c5
        try clear c5b0
        try clear c5b1
        try clear c5b2
        obtain ⟨x5_1, x17_1, rfl, HA, HK1, HO_0, HO_5, HB⟩ := hrel
        cases gk with
        | zero => exact absurd HA.out (by simp [field_Roots.l0])
        | succ k1 =>
          have H := HA.out
          clear HA
          simp only [field_Roots.l0] at H
          by_cases c16 : x17_1 < 64
          · rw [if_pos c16] at H
            have c16b0 : decide (x17_1 < 64) = true := decide_eq_true c16
            clear c16
            replace H := Option.bind_eq_some_iff.mp H
            obtain ⟨t172, A170, H⟩ := H
            replace H : (if t172 = 0 then (if x5_1.length < 140737488355328 then (field_Roots.l0 k1 l0 (x5_1 ++ [x17_1]) ((x17_1 + 1) % 256)) else (none)) else (field_Roots.l0 k1 l0 x5_1 ((x17_1 + 1) % 256))) = some (r1, r2) := H
            have A17 := Aside0.mk A170
            clear A170
            by_cases c18 : t172 = 0
            · rw [if_pos c18] at H
              have c18b0 : (t172 == 0) = true := beq_iff_eq.mpr c18
              have c18b1 : (t172 != 0) = false := bne_eq_false_iff_eq.mpr c18
              clear c18
              by_cases c19 : x5_1.length < 140737488355328
              · rw [if_pos c19] at H
                have LMc19 := Aside0.mk c19
                clear c19
                obtain ⟨y173, hy173⟩ : ∃ y_ : List Int, y_ = (x5_1 ++ [x17_1]) := ⟨_, rfl⟩
                replace H : (field_Roots.l0 k1 l0 y173 ((x17_1 + 1) % 256)) = some (r1, r2) := by first | (rw [hy173]; with_reducible exact H) | (have H2_ := (Option.bind_some _ _).symm.trans H; rw [hy173]; with_reducible exact H2_) | (have H2_ := (Option.bind_some _ _).symm.trans H; with_reducible exact H2_) | with_reducible exact H | (rw [hy173]; exact H) | exact H
                have Ny173 := Aside0.mk hy173
                clear hy173
                have H' := Aside0.mk H
                clear H
                go_wp2_with (first | ((with_reducible refine gate_callee (f := 55) rfl ?_); refine goesL_ (some 22) rfl rfl Tryd.func55 (by kernel_rfl) rfl #[.slice A0 l0.length c0, .int .u8 x17_1] rfl (by (try simp only [List.map_toArray, List.map_cons, List.map_nil]); first | done | rfl | (simp only [List.length_drop, List.length_take]; rfl)) ?_; (with_reducible refine (field_eval.calls _ _ l0 x17_1 t172 _ ?side1 ?side2 ?side3 A17.out).mono ?_); (case side1 => repeat (first | exact (Kd.V_reads' HO_0.out).2.2 | (with_reducible refine Kd.C_alloc ?_ _) | (with_reducible refine Kd.C_drewN ?_ _) | (with_reducible refine Kd.C_drew ?_))); (case side2 => exact (Kd.V_reads' HO_0.out).2.1); (case side3 => repeat (first | exact (Kd.C_below HRT.out HB.out) | (with_reducible refine Kd.C_alloc ?_ _) | (with_reducible refine Kd.C_drewN ?_ _) | (with_reducible refine Kd.C_drew ?_))); rintro e w20 ⟨rfl, hb⟩; refine ⟨_, rfl, ?_⟩; have n0_ := Aside0.mk (Kd.V_below (by (with_reducible repeat (first | apply Kd.V_alloc | apply Kd.V_drewN | apply Kd.V_drew)); exact HO_0.out) hb); have n1_ := Aside0.mk (Kd.R_below (by (with_reducible repeat (first | apply Kd.R_alloc | apply Kd.R_drewN | apply Kd.R_drew)); exact HO_5.out) hb); have n2_ := Aside0.mk (below_step (by repeat (first | (with_reducible first | exact HB.out | apply below_alloc | apply pw_below_drewN | apply below_drew1) | exact HB.out)) hb); clear HO_0; clear HO_5; clear HB; have HO_0 := n0_; have HO_5 := n1_; have HB := n2_; clear n0_ n1_ n2_; (try clear hb); (try clear hb2); (try clear hk); (try clear hi)) | ((with_reducible refine gate_builtin (b := .append) (xs := #[.tmp 24, .tmp 26]) rfl ?_); at_builtin; refine Kd.R_append (Kd.int .u8) (w0 := w) w.heap.size rfl (.tmp 24) (.tmp 26) 22 5 (.int .u8 0) 1 rfl Tryd.underlying22 info5 rfl (by decide) (by omega) u5 x5_1 x17_1 [.int .u8 x17_1] (fun k_ => (w.heap.size ≤ k_)) (fun _ => False) rfl rfl ?aP (fun _ hk => hk.elim) ?aF ?aO ?aB ?aS ?aL ?_; (case aP => exact rfl); (case aB => exact (by repeat (first | (with_reducible first | exact HB.out | apply below_alloc | apply pw_below_drewN | apply below_drew1) | exact HB.out))); (case aF => exact (fun k_ hk => (Nat.le_trans (below_size (by repeat (first | (with_reducible first | exact HB.out | apply below_alloc | apply pw_below_drewN | apply below_drew1) | exact HB.out))) hk))); (case aO => exact (by (with_reducible repeat (first | apply Kd.R_alloc | apply Kd.R_drewN | apply Kd.R_drew)); exact HO_5.out)); (case aS => exact (below_size (by repeat (first | (with_reducible first | exact HB.out | apply below_alloc | apply pw_below_drewN | apply below_drew1) | exact HB.out)))); (case aL => have := LMc19.out; omega); intro v174 w21 ho hb hg hat; rw [← Ny173.out] at ho; have n0_ := Aside0.mk (Kd.V_afterv (ok := (fun k_ => (P0_ k_ ∨ w.heap.size ≤ k_))) (by (with_reducible repeat (first | apply Kd.V_alloc | apply Kd.V_drewN | apply Kd.V_drew)); exact HO_0.out) hg hat); have n1_ := Aside0.mk (hb); have n2_ := Aside0.mk (ho); clear HO_0; clear HB; clear HO_5; have HO_0 := n0_; have HB := n1_; have HO175 := n2_; clear n0_ n1_ n2_; clear ho hb hg hat))
                go_roundg k1
                case measure => have := HK1.out; omega
                case rel => exact ⟨(y173), ((x17_1 + 1) % 256), (by first | rfl | (simp; done) | (simp [*]; done)), H', ⟨by have := HK1.out; omega⟩, ⟨by (with_reducible repeat (first | apply Kd.V_alloc | apply Kd.V_drewN | apply Kd.V_drew)); exact HO_0.out⟩, ⟨by (with_reducible repeat (first | apply Kd.R_alloc | apply Kd.R_drewN | apply Kd.R_drew)); exact HO175.out⟩, ⟨by repeat (first | (with_reducible first | exact HB.out | apply below_alloc | apply pw_below_drewN | apply below_drew1) | exact HB.out)⟩⟩
              · rw [if_neg c19] at H
                exact absurd H (by simp)
            · rw [if_neg c18] at H
              have c18b0 : (t172 == 0) = false := beq_eq_false_iff_ne.mpr c18
              have c18b1 : (t172 != 0) = true := bne_iff_ne.mpr c18
              have H' := Aside0.mk H
              clear H
              go_wp2_with (first | ((with_reducible refine gate_callee (f := 55) rfl ?_); refine goesL_ (some 22) rfl rfl Tryd.func55 (by kernel_rfl) rfl #[.slice A0 l0.length c0, .int .u8 x17_1] rfl (by (try simp only [List.map_toArray, List.map_cons, List.map_nil]); first | done | rfl | (simp only [List.length_drop, List.length_take]; rfl)) ?_; (with_reducible refine (field_eval.calls _ _ l0 x17_1 t172 _ ?side1 ?side2 ?side3 A17.out).mono ?_); (case side1 => repeat (first | exact (Kd.V_reads' HO_0.out).2.2 | (with_reducible refine Kd.C_alloc ?_ _) | (with_reducible refine Kd.C_drewN ?_ _) | (with_reducible refine Kd.C_drew ?_))); (case side2 => exact (Kd.V_reads' HO_0.out).2.1); (case side3 => repeat (first | exact (Kd.C_below HRT.out HB.out) | (with_reducible refine Kd.C_alloc ?_ _) | (with_reducible refine Kd.C_drewN ?_ _) | (with_reducible refine Kd.C_drew ?_))); rintro e w22 ⟨rfl, hb⟩; refine ⟨_, rfl, ?_⟩; have n0_ := Aside0.mk (Kd.V_below (by (with_reducible repeat (first | apply Kd.V_alloc | apply Kd.V_drewN | apply Kd.V_drew)); exact HO_0.out) hb); have n1_ := Aside0.mk (Kd.R_below (by (with_reducible repeat (first | apply Kd.R_alloc | apply Kd.R_drewN | apply Kd.R_drew)); exact HO_5.out) hb); have n2_ := Aside0.mk (below_step (by repeat (first | (with_reducible first | exact HB.out | apply below_alloc | apply pw_below_drewN | apply below_drew1) | exact HB.out)) hb); clear HO_0; clear HO_5; clear HB; have HO_0 := n0_; have HO_5 := n1_; have HB := n2_; clear n0_ n1_ n2_; (try clear hb); (try clear hb2); (try clear hk); (try clear hi)))
              go_roundg k1
              case measure => have := HK1.out; omega
              case rel => exact ⟨(x5_1), ((x17_1 + 1) % 256), (by first | rfl | (simp; done) | (simp [*]; done)), H', ⟨by have := HK1.out; omega⟩, ⟨by (with_reducible repeat (first | apply Kd.V_alloc | apply Kd.V_drewN | apply Kd.V_drew)); exact HO_0.out⟩, ⟨by (with_reducible repeat (first | apply Kd.R_alloc | apply Kd.R_drewN | apply Kd.R_drew)); exact HO_5.out⟩, ⟨by repeat (first | (with_reducible first | exact HB.out | apply below_alloc | apply pw_below_drewN | apply below_drew1) | exact HB.out)⟩⟩
          · rw [if_neg c16] at H
            have c16b0 : decide (x17_1 < 64) = false := decide_eq_false c16
            clear c16
            simp only [Option.some.injEq, Prod.mk.injEq] at H
            obtain ⟨rfl, rfl⟩ := H
            go_wp2
            go_ret2
            exact ⟨_, by first | rfl | (simp [errW_none, errW_some] <;> rfl) | (simp [*, errW_none, errW_some] <;> rfl), by (with_reducible repeat (first | apply Kd.R_alloc | apply Kd.R_drewN | apply Kd.R_drew)); exact HO_5.out, by repeat (first | (with_reducible first | exact HB.out | apply below_alloc | apply pw_below_drewN | apply below_drew1) | exact HB.out)⟩
  · rw [if_neg c3] at H
    have c3b0 : (t168 == 0) = false := beq_eq_false_iff_ne.mpr c3
    have c3b1 : (t168 != 0) = true := bne_iff_ne.mpr c3
    simp only [Option.some.injEq, Prod.mk.injEq] at H
    obtain ⟨rfl, rfl⟩ := H
    go_enter Tryd.func39, Tryd.ntmps39
    go_wp2_with (first | ((with_reducible refine gate_dst (N := 8) rfl ?_); refine Kd.N_lit (Kd.slice 5 (Kd.int .u8)) _ 22 ?hg (N' := 8) ?hd (xs := ([l0] : List (List Int))) (inner := [.slice A0 l0.length c0]) (ok := (fun k_ => (P0_ k_ ∨ w.heap.size ≤ k_))) (okp := (fun k_ => (P0_ k_ ∨ w.heap.size ≤ k_))) ?hr ?hp (fun _ hk => hk) ((show ∀ k_, w.heap.size ≤ k_ → (fun k_ => (P0_ k_ ∨ w.heap.size ≤ k_)) k_ from fun k_ hk => (.inr (Nat.le_trans (below_size (by repeat (first | (with_reducible first | exact HB.out | apply below_alloc | apply pw_below_drewN | apply below_drew1) | exact HB.out))) hk))) _ (Nat.le_refl _)) (Below.refl _ _) (Nat.le_refl _) (by simp) ?_; (case hd => rfl); (case hg => rfl); (case hr => first | (go_simp; done) | (go_simp; rfl)); (case hp => exact (Reps.one (show Kd.FK (Kd.slice 5 (Kd.int .u8)) _ _ l0 [.slice A0 l0.length c0] from (Kd.FK_slice_mk (Kd.V_reads' (Kd.V_mono (ok' := (fun k_ => (P0_ k_ ∨ w.heap.size ≤ k_))) (HO0.out) (fun k_ hk => hk))).2.1 (Kd.V_F (Kd.V_mono (ok' := (fun k_ => (P0_ k_ ∨ w.heap.size ≤ k_))) (HO0.out) (fun k_ hk => hk))))) (Reps.none _ _))); intro v166 w23 ho24 hb hg_ hnew_; clear hg_ hnew_; (first | rw [← Ny165.out] at ho24 | (simp only [Int.reduceToNat] at ho24; rw [← Ny165.out] at ho24)); have n0_ := Aside0.mk (Kd.V_elder' (by (with_reducible repeat (first | apply Kd.V_alloc | apply Kd.V_drewN | apply Kd.V_drew)); exact HO0.out) (Kd.N_base ho24) hb); have n1_ := Aside0.mk (Kd.N_lower ho24 (below_size (by repeat (first | (with_reducible first | exact HB.out | apply below_alloc | apply pw_below_drewN | apply below_drew1) | exact HB.out)))); have n2_ := Aside0.mk (below_step (by repeat (first | (with_reducible first | exact HB.out | apply below_alloc | apply pw_below_drewN | apply below_drew1) | exact HB.out)) hb); clear HO0; clear HB; have HO0 := n0_; have HO167 := n1_; have HB := n2_; clear n0_ n1_ n2_; clear hb ho24; obtain ⟨Ao25, co25, eo25⟩ := Kd.N_slice HO167.out; subst eo25) | ((with_reducible refine gate_callee (f := 45) rfl ?_); refine goesL_ (some 9) rfl rfl Tryd.func45 (by kernel_rfl) rfl #[.slice Ao25 y165.length co25] rfl (by (try simp only [List.map_toArray, List.map_cons, List.map_nil]); first | done | rfl | (simp only [List.length_drop, List.length_take]; rfl)) ?_; (with_reducible refine (field_check.calls _ _ y165 t168 _ ?side1 ?side2 A2.out).mono ?_); (case side1 => repeat (first | exact (Kd.N_reads' HO167.out).2.2 | (with_reducible refine Kd.C_alloc ?_ _) | (with_reducible refine Kd.C_drewN ?_ _) | (with_reducible refine Kd.C_drew ?_))); (case side2 => exact (Kd.N_reads' HO167.out).2.1); rintro e w' ⟨rfl, ⟨nd, rfl⟩⟩; refine ⟨_, rfl, ?_⟩))
    go_ret2
    exact ⟨_, by first | rfl | (simp [errW_none, errW_some] <;> rfl) | (simp [*, errW_none, errW_some] <;> rfl), by first | exact Kd.R_nil _ _ _ _ _ | exact Kd.N_nil _ _ _ _ _ | exact Kd.V_nil _ _ _ _ _ | exact Kd.Q_nil _ _ _ _ _ | exact Kd.S_nil _ _ _ _ _, by repeat (first | (with_reducible first | exact HB.out | apply below_alloc | apply pw_below_drewN | apply below_drew1) | exact HB.out)⟩
end Go.Proofs.YtehgfpfmpkmdmaaDoor.Print
