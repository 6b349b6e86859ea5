-- Written by a program of this seat (the printer's forms over given functions); Lean checks it.
import Derived.Test.YtbhcchcjmgfpiaaPrint0
import Derived.Test.YtbhcchcjmgfpiaaPed
import Derived.Test.YtbhcchcjmgfpiaaWRepsOne
import Derived.Test.YtbhcchcjmgfpiaaGc
import Derived.Test.YtbhcchcjmgfpiaaGd
import Derived.Test.YtbhcchcjmgfpiaaGw
namespace Go.Proofs.Ytbhcchcjmgfpiaa.Print
open Go.RowKit Go.Proofs.YtbhcchcjmgfpiaaW.PrintWords Go.Proofs.YtbhcchcjmgfpiaaW.PrintLast Go.Proofs.YtbhcchcjmgfpiaaW.PrintMore
attribute [local go_sem] max2_int min2_int max_two min_two max_three min_three max_four min_four   -- for this text's walks alone
set_option linter.unusedVariables false
set_option linter.unusedSimpArgs false

theorem letterbaglaw28_SequenceEqual.mono_l : ∀ k, (∀ y0 y1 y2 y3 y4 y5 y6, LeO (letterbaglaw28_SequenceEqual.l0 k y0 y1 y2 y3 y4 y5 y6) (letterbaglaw28_SequenceEqual.l0 (k + 1) y0 y1 y2 y3 y4 y5 y6)) ∧ (∀ y0 y1 y2 y3 y4 y5, LeO (letterbaglaw28_SequenceEqual.l1 k y0 y1 y2 y3 y4 y5) (letterbaglaw28_SequenceEqual.l1 (k + 1) y0 y1 y2 y3 y4 y5)) ∧ (∀ y0 y1 y2 y3 y4 y5 y6 y7 y8, LeO (letterbaglaw28_SequenceEqual.l2 k y0 y1 y2 y3 y4 y5 y6 y7 y8) (letterbaglaw28_SequenceEqual.l2 (k + 1) y0 y1 y2 y3 y4 y5 y6 y7 y8)) ∧ (∀ y0 y1 y2 y3 y4 y5 y6 y7 y8 y9 y10, LeO (letterbaglaw28_SequenceEqual.j3 k y0 y1 y2 y3 y4 y5 y6 y7 y8 y9 y10) (letterbaglaw28_SequenceEqual.j3 (k + 1) y0 y1 y2 y3 y4 y5 y6 y7 y8 y9 y10))
  | 0 => ⟨fun _ _ _ _ _ _ _ r h => by simp [letterbaglaw28_SequenceEqual.l0] at h, fun _ _ _ _ _ _ r h => by simp [letterbaglaw28_SequenceEqual.l1] at h, fun _ _ _ _ _ _ _ _ _ r h => by simp [letterbaglaw28_SequenceEqual.l2] at h, fun _ _ _ _ _ _ _ _ _ _ _ r h => by simp [letterbaglaw28_SequenceEqual.j3] at h⟩
  | k + 1 => by
    obtain ⟨ih0, ih1, ih2, ih3⟩ := letterbaglaw28_SequenceEqual.mono_l k
    refine ⟨?_, ?_, ?_, ?_⟩
    · intro y0 y1 y2 y3 y4 y5 y6
      unfold letterbaglaw28_SequenceEqual.l0
      repeat' first
      | (with_reducible exact ih0 _ _ _ _ _ _ _)
      | (with_reducible exact ih1 _ _ _ _ _ _)
      | (with_reducible exact ih2 _ _ _ _ _ _ _ _ _)
      | (with_reducible exact ih3 _ _ _ _ _ _ _ _ _ _ _)
      | (with_reducible exact LeO.refl _)
      | (with_reducible exact LeO.none _)
      | (with_reducible refine LeO.ite ?_ ?_)
      | (with_reducible refine LeO.bind ?_ (fun _ => ?_))
      | exact ih0 _ _ _ _ _ _ _
      | exact ih1 _ _ _ _ _ _
      | exact ih2 _ _ _ _ _ _ _ _ _
      | exact ih3 _ _ _ _ _ _ _ _ _ _ _
      | exact LeO.none _
      | refine LeO.ite ?_ ?_
      | refine LeO.bind ?_ (fun _ => ?_)
    · intro y0 y1 y2 y3 y4 y5
      unfold letterbaglaw28_SequenceEqual.l1
      repeat' first
      | (with_reducible exact ih0 _ _ _ _ _ _ _)
      | (with_reducible exact ih1 _ _ _ _ _ _)
      | (with_reducible exact ih2 _ _ _ _ _ _ _ _ _)
      | (with_reducible exact ih3 _ _ _ _ _ _ _ _ _ _ _)
      | (with_reducible exact LeO.refl _)
      | (with_reducible exact LeO.none _)
      | (with_reducible refine LeO.ite ?_ ?_)
      | (with_reducible refine LeO.bind ?_ (fun _ => ?_))
      | exact ih0 _ _ _ _ _ _ _
      | exact ih1 _ _ _ _ _ _
      | exact ih2 _ _ _ _ _ _ _ _ _
      | exact ih3 _ _ _ _ _ _ _ _ _ _ _
      | exact LeO.none _
      | refine LeO.ite ?_ ?_
      | refine LeO.bind ?_ (fun _ => ?_)
    · intro y0 y1 y2 y3 y4 y5 y6 y7 y8
      unfold letterbaglaw28_SequenceEqual.l2
      repeat' first
      | (with_reducible exact ih0 _ _ _ _ _ _ _)
      | (with_reducible exact ih1 _ _ _ _ _ _)
      | (with_reducible exact ih2 _ _ _ _ _ _ _ _ _)
      | (with_reducible exact ih3 _ _ _ _ _ _ _ _ _ _ _)
      | (with_reducible exact LeO.refl _)
      | (with_reducible exact LeO.none _)
      | (with_reducible refine LeO.ite ?_ ?_)
      | (with_reducible refine LeO.bind ?_ (fun _ => ?_))
      | exact ih0 _ _ _ _ _ _ _
      | exact ih1 _ _ _ _ _ _
      | exact ih2 _ _ _ _ _ _ _ _ _
      | exact ih3 _ _ _ _ _ _ _ _ _ _ _
      | exact LeO.none _
      | refine LeO.ite ?_ ?_
      | refine LeO.bind ?_ (fun _ => ?_)
    · intro y0 y1 y2 y3 y4 y5 y6 y7 y8 y9 y10
      unfold letterbaglaw28_SequenceEqual.j3
      repeat' first
      | (with_reducible exact ih0 _ _ _ _ _ _ _)
      | (with_reducible exact ih1 _ _ _ _ _ _)
      | (with_reducible exact ih2 _ _ _ _ _ _ _ _ _)
      | (with_reducible exact ih3 _ _ _ _ _ _ _ _ _ _ _)
      | (with_reducible exact LeO.refl _)
      | (with_reducible exact LeO.none _)
      | (with_reducible refine LeO.ite ?_ ?_)
      | (with_reducible refine LeO.bind ?_ (fun _ => ?_))
      | exact ih0 _ _ _ _ _ _ _
      | exact ih1 _ _ _ _ _ _
      | exact ih2 _ _ _ _ _ _ _ _ _
      | exact ih3 _ _ _ _ _ _ _ _ _ _ _
      | exact LeO.none _
      | refine LeO.ite ?_ ?_
      | refine LeO.bind ?_ (fun _ => ?_)
theorem letterbaglaw28_SequenceEqual.mono : ∀ a0 a1 a2 a3 k, LeO (letterbaglaw28_SequenceEqual.f k a0 a1 a2 a3) (letterbaglaw28_SequenceEqual.f (k + 1) a0 a1 a2 a3) := by
  intro a0 a1 a2 a3 k
  obtain ⟨ih0, ih1, ih2, ih3⟩ := letterbaglaw28_SequenceEqual.mono_l k
  unfold letterbaglaw28_SequenceEqual.f
  repeat' first
      | (with_reducible exact ih0 _ _ _ _ _ _ _)
      | (with_reducible exact ih1 _ _ _ _ _ _)
      | (with_reducible exact ih2 _ _ _ _ _ _ _ _ _)
      | (with_reducible exact ih3 _ _ _ _ _ _ _ _ _ _ _)
      | (with_reducible exact LeO.refl _)
      | (with_reducible exact LeO.none _)
      | (with_reducible refine LeO.ite ?_ ?_)
      | (with_reducible refine LeO.bind ?_ (fun _ => ?_))
      | exact ih0 _ _ _ _ _ _ _
      | exact ih1 _ _ _ _ _ _
      | exact ih2 _ _ _ _ _ _ _ _ _
      | exact ih3 _ _ _ _ _ _ _ _ _ _ _
      | exact LeO.none _
      | refine LeO.ite ?_ ?_
      | refine LeO.bind ?_ (fun _ => ?_)
set_option maxHeartbeats 8000000 in
set_option maxRecDepth 100000 in
theorem letterbaglaw28_SequenceEqual.calls (k : Nat) (a0 : Int) (a1 : Int) (a2 : Int) (a3 : Int) (r : Bool) (w : World) (h : letterbaglaw28_SequenceEqual.f k a0 a1 a2 a3 = some r) :
    Calls Try.prog 5 #[.int .u8 a0, .int .u8 a1, .int .u8 a2, .int .u16 a3] w fun e w' => e = .returned (.bool r) ∧ Below w.heap.size w w' := by
 have hu27 := Try.underlying27; have hu38 := Try.underlying38
 have HB := Aside0.mk (Below.refl w.heap.size w)
 have H : (if 0 ≤ (wrap64 (1 + (Int.tmod (wrap64 (a0)) 30))) then (if (wrap64 (1 + (Int.tmod (wrap64 (a0)) 30)) : Int).toNat ≤ 35184372088832 then ((some (List.replicate (wrap64 (1 + (Int.tmod (wrap64 (a0)) 30)) : Int).toNat 0 : List Int)).bind fun y367 => (letterbaglaw28_SequenceEqual.l0 k a2 a3 (wrap64 (1 + (Int.tmod (wrap64 (a0)) 30))) (wrap64 (1 + (Int.tmod (wrap64 (a1)) 100))) y367 (y367.length : Int) 0)) else (none)) else (none)) = some r := h
 clear h
 obtain ⟨ji5, hji5⟩ : ∃ j_ : Int, (wrap64 (1 + (Int.tmod (wrap64 (a0)) 30))) = j_ := ⟨_, rfl⟩
 replace H : (if 0 ≤ (ji5) then (if (ji5 : Int).toNat ≤ 35184372088832 then ((some (List.replicate (ji5 : Int).toNat 0 : List Int)).bind fun y367 => (letterbaglaw28_SequenceEqual.l0 k a2 a3 ji5 (wrap64 (1 + (Int.tmod (wrap64 (a1)) 100))) y367 (y367.length : Int) 0)) else (none)) else (none)) = some r := by first | (rw [hji5] at H; exact H) | (simp only [hji5] at H ⊢; exact H)
 have hji5w : (IntKind.i64.wrap (1 + (Int.tmod (wrap64 (a0)) 30))) = ji5 := (i64_w _).trans hji5
 by_cases c6 : 0 ≤ (ji5)
 rotate_left
 ·rw [if_neg c6] at H
  exact absurd H (by simp)
 rw [if_pos c6] at H
 have c6b0 := eq_true c6
 have c6b1 : decide (0 ≤ (ji5)) = true := decide_eq_true c6
 clear c6
 by_cases c7 : (ji5 : Int).toNat ≤ 35184372088832
 rotate_left
 ·rw [if_neg c7] at H
  exact absurd H (by simp)
 rw [if_pos c7] at H
 have c7b0 := eq_true c7
 have c7b1 : decide ((ji5 : Int).toNat ≤ 35184372088832) = true := decide_eq_true c7
 clear c7
 obtain ⟨y367, hy367⟩ : ∃ y_ : List Int, y_ = (List.replicate (ji5 : Int).toNat 0) := ⟨_, rfl⟩
 replace H : (letterbaglaw28_SequenceEqual.l0 k a2 a3 ji5 (wrap64 (1 + (Int.tmod (wrap64 (a1)) 100))) y367 (y367.length : Int) 0) = some r := by first | (rw [hy367]; with_reducible exact H) | (have H2_ := (Option.bind_some _ _).symm.trans H; rw [hy367]; with_reducible exact H2_) | (have H2_ := (Option.bind_some _ _).symm.trans H; with_reducible exact H2_) | with_reducible exact H | (rw [hy367]; exact H) | exact H
 have Ny367 := Aside0.mk hy367
 clear hy367
 have H' := Aside0.mk H
 clear H
 go_enter Try.func5, Try.ntmps5
 go_wp2_with (first | ((with_reducible refine gate_dst (N := 31) rfl ?_); (try (refine gate_guard (by rfl) ?_; dsimp only)); refine Kd.R_make (Kd.int .i64) _ 3 rfl (N := 31) rfl 24 _ _ rfl ji5 rfl rfl Try.underlying24 (.int .i64 0) 8 info3 rfl (by decide) (by omega) 0 (ok := fun _ => True) (okp := fun _ => True) rfl (fun _ hk => hk) trivial (of_decide_eq_true (by first | (with_reducible assumption) | assumption)) (Nat.le_trans (Nat.mul_le_mul_right _ (of_decide_eq_true (by first | (with_reducible assumption) | assumption) : ji5.toNat ≤ 35184372088832)) (by omega)) (Below.refl _ _) (Nat.le_refl _) ?_; intro v368 w8 ho9 hb hg_ hnew_; clear hg_ hnew_; (first | rw [← Ny367.out] at ho9 | (simp only [Int.reduceToNat] at ho9; rw [← Ny367.out] at ho9)); have n0_ := Aside0.mk (Kd.R_lower ho9 (below_size (by repeat (first | (with_reducible first | exact HB.out | apply below_alloc | apply pw_below_drewN | apply below_drew1) | exact HB.out)))); have n1_ := Aside0.mk (below_step (by repeat (first | (with_reducible first | exact HB.out | apply below_alloc | apply pw_below_drewN | apply below_drew1) | exact HB.out)) hb); clear HB; have HO369 := n0_; have HB := n1_; clear n0_ n1_; clear hb ho9; obtain ⟨Ao10, co10, eo10⟩ := Kd.R_slice HO369.out; subst eo10))
 go_loopg [34] k (fun kq v34 w' => ∃ (x11_1 : List Int) (x34_1 : Int), v34 = .int .i64 x34_1 ∧ Aside0 (letterbaglaw28_SequenceEqual.l0 kq a2 a3 ji5 (wrap64 (1 + (Int.tmod (wrap64 (a1)) 100))) x11_1 (y367.length : Int) x34_1 = some r) ∧ Aside0 (kq ≤ k) ∧ Aside0 (Kd.R (Kd.int .i64) 3 w' w.heap.size (fun _ => True) (.slice Ao10 y367.length co10) x11_1) ∧ Aside0 (Below w.heap.size w w'))
 case atStart => exact ⟨(y367), (0), (by first | rfl | (simp; done) | (simp [*]; done)), H', ⟨Nat.le_refl _⟩, ⟨by (with_reducible repeat (first | apply Kd.R_alloc | apply Kd.R_drewN | apply Kd.R_drew)); exact HO369.out⟩, ⟨by repeat (first | (with_reducible first | exact HB.out | apply below_alloc | apply pw_below_drewN | apply below_drew1) | exact HB.out)⟩⟩
 case round =>
  clear H'; (try clear p2); (try clear c5); (try clear c6); (try clear c6b0); (try clear c6b1); (try clear p6); (try clear c7); (try clear c7b0); (try clear c7b1)
  obtain ⟨x11_1, x34_1, rfl, HA, HK1, HO_11, HB⟩ := hrel
  have hl11_1 := (Kd.R_reads' HO_11.out).1
  rw [hl11_1] at HO_11
  (try simp only [hl11_1])
  cases gk with
  | zero => exact absurd HA.out (by simp [letterbaglaw28_SequenceEqual.l0])
  | succ k1 =>
   have H := HA.out; clear HA
   simp only [letterbaglaw28_SequenceEqual.l0] at H
   by_cases c11 : x34_1 < (y367.length : Int)
   ·rw [if_pos c11] at H
    have c11b0 : decide (x34_1 < (y367.length : Int)) = true := decide_eq_true c11
    clear c11
    by_cases c12 : 0 ≤ x34_1
    rotate_left
    ·rw [if_neg c12] at H
     exact absurd H (by simp)
    rw [if_pos c12] at H
    have c12b0 : decide (0 ≤ x34_1) = true := decide_eq_true c12
    clear c12
    by_cases c13 : x34_1 < (x11_1.length : Int)
    rotate_left
    ·rw [if_neg c13] at H
     exact absurd H (by simp)
    rw [if_pos c13] at H
    have c13b0 : decide (x34_1 < (x11_1.length : Int)) = true := decide_eq_true c13
    clear c13
    obtain ⟨y370, hy370⟩ : ∃ y_ : List Int, y_ = (x11_1.set (x34_1 : Int).toNat (wrap64 ((wrap64 (ji5 * (wrap64 (1 + (Int.tmod (wrap64 (a1)) 100))))) + (wrap64 (a2))))) := ⟨_, rfl⟩
    replace H : (letterbaglaw28_SequenceEqual.l0 k1 a2 a3 ji5 (wrap64 (1 + (Int.tmod (wrap64 (a1)) 100))) y370 (y367.length : Int) (wrap64 (x34_1 + 1))) = some r := by first | (rw [hy370]; with_reducible exact H) | (have H2_ := (Option.bind_some _ _).symm.trans H; rw [hy370]; with_reducible exact H2_) | (have H2_ := (Option.bind_some _ _).symm.trans H; with_reducible exact H2_) | with_reducible exact H | (rw [hy370]; exact H) | exact H
    have Ny370 := Aside0.mk hy370
    clear hy370
    have H' := Aside0.mk H
    clear H
    have p14 : 0 ≤ (x34_1 : Int) := of_decide_eq_true (by first | (with_reducible assumption) | assumption)
    have q14 : (x34_1 : Int) < ((x11_1.length : Int) : Int) := of_decide_eq_true (by first | (with_reducible assumption) | assumption)
    obtain ⟨go14, co14, eo14, gb14, gl14, cl14, HG14⟩ := Kd.R_form HO_11.out (by omega)
    (first | cases eo14 | (injection eo14 with ea_ en_ ec_; (first | subst ea_ | (injection ea_ with ea_; subst ea_)); subst ec_; clear en_))
    have GB14 := Aside0.mk gb14
    have GG14 := Aside0.mk HG14
    clear gb14 gl14 HG14
    obtain ⟨hx14_0, hf14_0⟩ := Kd.R_celln 0 HO_11.out (x34_1 : Int) p14 q14
    replace p14 := eq_true p14
    replace q14 := eq_true q14
    have HP15 := Kd.R_putg HO_11.out (x34_1 : Int) (wrap64 ((wrap64 (ji5 * (wrap64 (1 + (Int.tmod (wrap64 (a1)) 100))))) + (wrap64 (a2))))
    go_wp2_with (first | ((with_reducible refine gate_store (t := 3) (p := 45) rfl ?_); refine store_event (t := 3) (p := 45) (v := ?vo_w16) (w1 := (wr.setCell ⟨go14, (x34_1 : Int).toNat, none⟩ (.int .i64 (wrap64 ((wrap64 (ji5 * (wrap64 (1 + (Int.tmod (wrap64 (a1)) 100))))) + (wrap64 (a2))))))) ?hg ?ho ?hn ?hr ?_; (case ho => rfl); (case hg => rfl); (case hn => rfl); (case hr => first | (go_simp; done) | (go_simp; rfl)); intro w16 hw; have hg : wr.grownBy w16 (some go14) := (by rw [hw]; exact HP15.2); have hp_ : Kd.R (Kd.int .i64) 3 w16 w.heap.size (fun _ => True) (.slice (some ⟨go14, 0, none⟩) x11_1.length co10) y370 := (by rw [hw, Ny370.out]; exact HP15.1); clear HP15; have n0_ := Aside0.mk (hp_); have n1_ := Aside0.mk ((by rw [hw]; exact below_set (HB.out) GB14.out : Below w.heap.size w w16)); clear HO_11; clear HB; have HO_11 := n0_; have HB := n1_; clear n0_ n1_; clear hg hw hp_))
    (try simp only [← hl11_1])
    go_roundg k1
    case measure => have := HK1.out; omega
    case rel => exact ⟨(y370), (wrap64 (x34_1 + 1)), (by first | rfl | (simp; done) | (simp [*]; done)), H', ⟨by have := HK1.out; omega⟩, ⟨by (try simp only [hl11_1]); (with_reducible repeat (first | apply Kd.R_alloc | apply Kd.R_drewN | apply Kd.R_drew)); exact HO_11.out⟩, ⟨by repeat (first | (with_reducible first | exact HB.out | apply below_alloc | apply pw_below_drewN | apply below_drew1) | exact HB.out)⟩⟩
   rw [if_neg c11] at H
   have c11b0 : decide (x34_1 < (y367.length : Int)) = false := decide_eq_false c11
   have c11b1 : decide (x34_1 < (x11_1.length : Int)) = false := by rw [← hl11_1]; exact c11b0
   clear c11
   by_cases c17 : (wrap64 ((wrap64 (ji5 * ji5)) + 1)) = 0
   ·rw [if_pos c17] at H
    exact absurd H (by simp)
   rw [if_neg c17] at H
   have c17b0 : ((wrap64 ((wrap64 (ji5 * ji5)) + 1)) == 0) = false := beq_eq_false_iff_ne.mpr c17
   have c17b1 : ((wrap64 ((wrap64 (ji5 * ji5)) + 1)) != 0) = true := bne_iff_ne.mpr c17
   obtain ⟨y371, hy371⟩ : ∃ y_ : List Int, y_ = (([Int.tmod (wrap64 (a3)) (wrap64 ((wrap64 (ji5 * ji5)) + 1)), wrap64 (ji5 * ji5), wrap64 ((wrap64 (ji5 * ji5)) + 1)] : List Int)) := ⟨_, rfl⟩
   replace H : (letterbaglaw28_SequenceEqual.l1 k1 ji5 (wrap64 (1 + (Int.tmod (wrap64 (a1)) 100))) x11_1 y371 (y371.length : Int) 0) = some r := by first | (rw [hy371]; with_reducible exact H) | (have H2_ := (Option.bind_some _ _).symm.trans H; rw [hy371]; with_reducible exact H2_) | (have H2_ := (Option.bind_some _ _).symm.trans H; with_reducible exact H2_) | with_reducible exact H | (rw [hy371]; exact H) | exact H
   have Ny371 := Aside0.mk hy371
   clear hy371
   have H' := Aside0.mk H
   clear H
   go_wp2_with (first | ((with_reducible refine gate_dst (N := 62) rfl ?_); (try (refine gate_guard (by rfl) ?_; dsimp only)); refine Kd.R_lit (Kd.int .i64) _ 3 ?hg (N := 62) ?hd (xs := ([Int.tmod (wrap64 (a3)) (wrap64 ((wrap64 (ji5 * ji5)) + 1)), wrap64 (ji5 * ji5), wrap64 ((wrap64 (ji5 * ji5)) + 1)] : List Int)) (inner := [.int .i64 (Int.tmod (wrap64 (a3)) (wrap64 ((wrap64 (ji5 * ji5)) + 1))), .int .i64 (wrap64 (ji5 * ji5)), .int .i64 (wrap64 ((wrap64 (ji5 * ji5)) + 1))]) (ok := fun _ => True) (okp := fun _ => True) ?hr ?hp (fun _ hk => hk) trivial (Below.refl _ _) (Nat.le_refl _) (by simp) ?_; (case hd => rfl); (case hg => rfl); (case hr => first | (go_simp; done) | (go_simp; rfl)); (case hp => exact (Reps.one (show Kd.M (Kd.int .i64) _ _ _ (Int.tmod (wrap64 (a3)) (wrap64 ((wrap64 (ji5 * ji5)) + 1))) [.int .i64 (Int.tmod (wrap64 (a3)) (wrap64 ((wrap64 (ji5 * ji5)) + 1)))] from rfl) (Reps.one (show Kd.M (Kd.int .i64) _ _ _ (wrap64 (ji5 * ji5)) [.int .i64 (wrap64 (ji5 * ji5))] from rfl) (Reps.one (show Kd.M (Kd.int .i64) _ _ _ (wrap64 ((wrap64 (ji5 * ji5)) + 1)) [.int .i64 (wrap64 ((wrap64 (ji5 * ji5)) + 1))] from rfl) (Reps.none _ _))))); intro v372 w18 ho19 hb hg_ hnew_; clear hg_ hnew_; (first | rw [← Ny371.out] at ho19 | (simp only [Int.reduceToNat] at ho19; rw [← Ny371.out] at ho19)); have n0_ := Aside0.mk (Kd.R_elder' (by (with_reducible repeat (first | apply Kd.R_alloc | apply Kd.R_drewN | apply Kd.R_drew)); exact HO_11.out) (Kd.R_base ho19) hb); have n1_ := Aside0.mk (Kd.R_lower (Kd.R_new' ho19 (Kd.R_lt (by (with_reducible repeat (first | apply Kd.R_alloc | apply Kd.R_drewN | apply Kd.R_drew)); exact HO_11.out))) (below_size (by repeat (first | (with_reducible first | exact HB.out | apply below_alloc | apply pw_below_drewN | apply below_drew1) | exact HB.out)))); have n2_ := Aside0.mk (below_step (by repeat (first | (with_reducible first | exact HB.out | apply below_alloc | apply pw_below_drewN | apply below_drew1) | exact HB.out)) hb); clear HO_11; clear HB; have HO_11 := n0_; have HO373 := n1_; have HB := n2_; clear n0_ n1_ n2_; clear hb ho19; obtain ⟨Ao20, co20, eo20⟩ := Kd.R_slice HO373.out; subst eo20))
   go_loopg [64] k1 (fun kq v64 w' => ∃ (x64_2 : Int), v64 = .int .i64 x64_2 ∧ Aside0 (letterbaglaw28_SequenceEqual.l1 kq ji5 (wrap64 (1 + (Int.tmod (wrap64 (a1)) 100))) x11_1 y371 (y371.length : Int) x64_2 = some r) ∧ Aside0 (kq ≤ k1) ∧ Aside0 (Kd.R (Kd.int .i64) 3 w' w.heap.size (fun k_ => some k_ ≠ ((.slice Ao20 y371.length co20) : Value).ownBlock) (.slice Ao10 x11_1.length co10) x11_1) ∧ Aside0 (Kd.R (Kd.int .i64) 3 w' w.heap.size (fun k_ => some k_ ≠ ((.slice Ao10 x11_1.length co10) : Value).ownBlock) (.slice Ao20 y371.length co20) y371) ∧ Aside0 (Below w.heap.size w w'))
   case atStart => exact ⟨(0), (by first | rfl | (simp; done) | (simp [*]; done)), H', ⟨Nat.le_refl _⟩, ⟨by (try simp only [hl11_1]); (with_reducible repeat (first | apply Kd.R_alloc | apply Kd.R_drewN | apply Kd.R_drew)); exact Kd.R_mono HO_11.out (fun _ hk => hk.2)⟩, ⟨by (try simp only [hl11_1]); (with_reducible repeat (first | apply Kd.R_alloc | apply Kd.R_drewN | apply Kd.R_drew)); exact Kd.R_mono HO373.out (fun _ hk => hk.2)⟩, ⟨by repeat (first | (with_reducible first | exact HB.out | apply below_alloc | apply pw_below_drewN | apply below_drew1) | exact HB.out)⟩⟩
   case round =>
    clear H'; (try clear c1); (try clear p1); (try clear q1); (try clear hx1); (try clear p2); (try clear c5); (try clear c6); (try clear c6b0); (try clear c6b1); (try clear p6); (try clear c7); (try clear c7b0); (try clear c7b1); (try clear c11); (try clear c11b0); (try clear c12); (try clear c12b0); (try clear c13); (try clear c13b0); (try clear p14); (try clear q14); (try clear hx14); (try clear hf14); (try clear c17); (try clear c17b0); (try clear c17b1); (try clear hx14_0); (try clear p14); (try clear p2); (try clear p6); (try clear q14)
    obtain ⟨x64_2, rfl, HA, HK2, HO_11, HO_62, HB⟩ := hrel
    cases gk with
    | zero => exact absurd HA.out (by simp [letterbaglaw28_SequenceEqual.l1])
    | succ k2 =>
     have H := HA.out; clear HA
     simp only [letterbaglaw28_SequenceEqual.l1] at H
     by_cases c21 : x64_2 < (y371.length : Int)
     rotate_left
     ·rw [if_neg c21] at H
      have c21b0 : decide (x64_2 < (y371.length : Int)) = false := decide_eq_false c21
      clear c21
      replace H := Option.bind_eq_some_iff.mp H
      obtain ⟨t374, A640, H⟩ := H
      replace H : (some t374) = some r := H
      have A64 := Aside0.mk A640
      clear A640
      obtain rfl := Option.some.inj H
      go_wp2_with (first | ((with_reducible refine gate_callee (f := 18) rfl ?_); refine goesL_ (some 110) rfl rfl Try.func18 (by kernel_rfl) rfl #[] rfl (by (try simp only [List.map_toArray, List.map_cons, List.map_nil]); first | done | rfl | (simp only [List.length_drop, List.length_take]; rfl)) ?_; (with_reducible refine (letterbaglaw28_awake.calls  t374 _ A64.out).mono ?_); rintro e w65 ⟨rfl, hb⟩; refine ⟨_, rfl, ?_⟩; have n0_ := Aside0.mk (Kd.R_below (by (with_reducible repeat (first | apply Kd.R_alloc | apply Kd.R_drewN | apply Kd.R_drew)); exact HO_11.out) hb); have n1_ := Aside0.mk (Kd.R_below (by (with_reducible repeat (first | apply Kd.R_alloc | apply Kd.R_drewN | apply Kd.R_drew)); exact HO_62.out) hb); have n2_ := Aside0.mk (below_step (by repeat (first | (with_reducible first | exact HB.out | apply below_alloc | apply pw_below_drewN | apply below_drew1) | exact HB.out)) hb); clear HO_11; clear HO_62; clear HB; have HO_11 := n0_; have HO_62 := n1_; have HB := n2_; clear n0_ n1_ n2_; (try clear hb); (try clear hb2); (try clear hk); (try clear hi)))
      go_ret
      exact ⟨by first | rfl | (simp [errW_none, errW_some] <;> rfl) | (simp only [← hji5]; first | rfl | (simp [errW_none, errW_some] <;> rfl)) | (simp [*, errW_none, errW_some] <;> rfl), by repeat (first | (with_reducible first | exact HB.out | apply below_alloc | apply pw_below_drewN | apply below_drew1) | exact HB.out)⟩
     rw [if_pos c21] at H
     have c21b0 : decide (x64_2 < (y371.length : Int)) = true := decide_eq_true c21
     clear c21
     by_cases c22 : 0 ≤ x64_2
     rotate_left
     ·rw [if_neg c22] at H
      exact absurd H (by simp)
     rw [if_pos c22] at H
     have c22b0 : decide (0 ≤ x64_2) = true := decide_eq_true c22
     clear c22
     by_cases c23 : x64_2 < (y371.length : Int)
     rotate_left
     ·rw [if_neg c23] at H
      exact absurd H (by simp)
     rw [if_pos c23] at H
     have c23b0 : decide (x64_2 < (y371.length : Int)) = true := decide_eq_true c23
     clear c23
     have H' := Aside0.mk H
     clear H
     have p375 : 0 ≤ (x64_2 : Int) := of_decide_eq_true (by first | (with_reducible assumption) | assumption)
     have q375 : x64_2 < (y371.length : Int) := of_decide_eq_true (by first | (with_reducible assumption) | assumption)
     obtain ⟨ad375, e375, hx375_0⟩ := Kd.at_int (Kd.R_reads' HO_62.out).2.2 x64_2 p375 q375
     cases e375
     replace p375 := eq_true p375
     replace q375 := eq_true q375
     go_wp2
     go_loopg [16, 17] k2 (fun kq v16 v17 w' => ∃ (x16_3 : List (S27)) (x17_3 : Int), v17 = .int .i64 x17_3 ∧ Aside0 (letterbaglaw28_SequenceEqual.l2 kq ji5 (wrap64 (1 + (Int.tmod (wrap64 (a1)) 100))) x11_1 (rd y371 x64_2) x16_3 x17_3 y371 (y371.length : Int) x64_2 = some r) ∧ Aside0 (kq ≤ k2) ∧ Aside0 (Kd.R (Kd.int .i64) 3 w' w.heap.size (fun k_ => some k_ ≠ ((.slice (some ad375) y371.length co20) : Value).ownBlock) (.slice Ao10 x11_1.length co10) x11_1) ∧ Aside0 (Kd.R k27 27 w' w.heap.size (fun _ => True) v16 x16_3) ∧ Aside0 (Kd.R (Kd.int .i64) 3 w' w.heap.size (fun k_ => some k_ ≠ ((.slice Ao10 x11_1.length co10) : Value).ownBlock) (.slice (some ad375) y371.length co20) y371) ∧ Aside0 (Below w.heap.size w w'))
     case atStart => exact ⟨(([] : List (S27))), (0), (by first | rfl | (simp; done) | (simp [*]; done)), H', ⟨Nat.le_refl _⟩, ⟨by (try simp only [hl11_1]); (with_reducible repeat (first | apply Kd.R_alloc | apply Kd.R_drewN | apply Kd.R_drew)); exact HO_11.out⟩, ⟨by (try simp only [hl11_1]); first | exact Kd.R_nil _ _ _ _ _ | exact Kd.N_nil _ _ _ _ _ | exact Kd.V_nil _ _ _ _ _ | exact Kd.Q_nil _ _ _ _ _ | exact Kd.S_nil _ _ _ _ _⟩, ⟨by (try simp only [hl11_1]); (with_reducible repeat (first | apply Kd.R_alloc | apply Kd.R_drewN | apply Kd.R_drew)); exact HO_62.out⟩, ⟨by repeat (first | (with_reducible first | exact HB.out | apply below_alloc | apply pw_below_drewN | apply below_drew1) | exact HB.out)⟩⟩
     case round =>
      clear H'; (try clear c1); (try clear p1); (try clear q1); (try clear hx1); (try clear c2); (try clear p2); (try clear p3); (try clear q3); (try clear hx3); (try clear c5); (try clear c6); (try clear c6b0); (try clear c6b1); (try clear p6); (try clear c7); (try clear c7b0); (try clear c7b1); (try clear c11); (try clear c11b0); (try clear c12); (try clear c12b0); (try clear c13); (try clear c13b0); (try clear p14); (try clear q14); (try clear hx14); (try clear hf14); (try clear c17); (try clear c17b0); (try clear c17b1); (try clear c21); (try clear c21b0); (try clear c22); (try clear c22b0); (try clear c23); (try clear c23b0); (try clear hx14_0); (try clear hx375_0); (try clear p1); (try clear p14)
      (try clear p2); (try clear p375); (try clear p6); (try clear q1); (try clear q14); (try clear q375)
      obtain ⟨x16_3, x17_3, rfl, HA, HK3, HO_11, HO_16, HO_62, HB⟩ := hrel
      cases gk with
      | zero => exact absurd HA.out (by simp [letterbaglaw28_SequenceEqual.l2])
      | succ k3 =>
       have H := HA.out; clear HA
       simp only [letterbaglaw28_SequenceEqual.l2] at H
       by_cases c24 : x17_3 < (rd y371 x64_2)
       ·rw [if_pos c24] at H
        have c24b0 : decide (x17_3 < (rd y371 x64_2)) = true := decide_eq_true c24
        clear c24
        by_cases c25 : x16_3.length < 8796093022208
        rotate_left
        ·rw [if_neg c25] at H
         exact absurd H (by simp)
        rw [if_pos c25] at H
        have LMc25 := Aside0.mk c25
        clear c25
        obtain ⟨y376, hy376⟩ : ∃ y_ : List (S27), y_ = (x16_3 ++ [(⟨wrap64 (x17_3 + 1), (wrap64 (1 + (Int.tmod (wrap64 (a1)) 100)))⟩ : S27)]) := ⟨_, rfl⟩
        replace H : (letterbaglaw28_SequenceEqual.l2 k3 ji5 (wrap64 (1 + (Int.tmod (wrap64 (a1)) 100))) x11_1 (rd y371 x64_2) y376 (wrap64 (x17_3 + 1)) y371 (y371.length : Int) x64_2) = some r := by first | (rw [hy376]; with_reducible exact H) | (have H2_ := (Option.bind_some _ _).symm.trans H; rw [hy376]; with_reducible exact H2_) | (have H2_ := (Option.bind_some _ _).symm.trans H; with_reducible exact H2_) | with_reducible exact H | (rw [hy376]; exact H) | exact H
        have Ny376 := Aside0.mk hy376
        clear hy376
        have H' := Aside0.mk H
        clear H
        go_wp2_with (first | ((with_reducible refine gate_builtin (b := .append) (xs := #[.tmp 73, .tmp 78]) rfl ?_); (try (refine gate_guard (by rfl) ?_; dsimp only)); at_builtin; refine Kd.R_append k27 (w0 := w) w.heap.size rfl (.tmp 73) (.tmp 78) 28 27 (.agg #[(.int .i64 0), (.int .i64 0)]) 16 rfl Try.underlying28 info27 rfl (by decide) (by omega) u16 x16_3 (⟨wrap64 (x17_3 + 1), (wrap64 (1 + (Int.tmod (wrap64 (a1)) 100)))⟩ : S27) [.int .i64 (wrap64 (x17_3 + 1)), .int .i64 (wrap64 (1 + (Int.tmod (wrap64 (a1)) 100)))] (fun _ => True) (fun _ => False) rfl rfl ?aP (fun _ hk => hk.elim) ?aF ?aO ?aB ?aS ?aL ?_; (case aP => exact k27_mkM _ _ _ (⟨wrap64 (x17_3 + 1), (wrap64 (1 + (Int.tmod (wrap64 (a1)) 100)))⟩ : S27)); (case aB => exact (by repeat (first | (with_reducible first | exact HB.out | apply below_alloc | apply pw_below_drewN | apply below_drew1) | exact HB.out))); (case aF => exact (fun _ _ => trivial)); (case aO => exact (by (with_reducible repeat (first | apply Kd.R_alloc | apply Kd.R_drewN | apply Kd.R_drew)); exact HO_16.out)); (case aS => exact (below_size (by repeat (first | (with_reducible first | exact HB.out | apply below_alloc | apply pw_below_drewN | apply below_drew1) | exact HB.out)))); (case aL => have := LMc25.out; omega); intro v377 w26 ho hb hg hat; rw [← Ny376.out] at ho; have n0_ := Aside0.mk (Kd.R_over' (by (with_reducible repeat (first | apply Kd.R_alloc | apply Kd.R_drewN | apply Kd.R_drew)); exact HO_11.out) (Kd.R_typed (by (with_reducible repeat (first | apply Kd.R_alloc | apply Kd.R_drewN | apply Kd.R_drew)); exact HO_16.out)) (by decide) hg); have n1_ := Aside0.mk (Kd.R_over' (by (with_reducible repeat (first | apply Kd.R_alloc | apply Kd.R_drewN | apply Kd.R_drew)); exact HO_62.out) (Kd.R_typed (by (with_reducible repeat (first | apply Kd.R_alloc | apply Kd.R_drewN | apply Kd.R_drew)); exact HO_16.out)) (by decide) hg); have n2_ := Aside0.mk (hb); have n3_ := Aside0.mk (ho); clear HO_11; clear HO_62; clear HB; clear HO_16; have HO_11 := n0_; have HO_62 := n1_; have HB := n2_; have HO378 := n3_; clear n0_ n1_ n2_ n3_; clear ho hb hg hat))
        go_roundg k3
        case measure => have := HK1.out; have := HK2.out; have := HK3.out; omega
        case rel => exact ⟨(y376), (wrap64 (x17_3 + 1)), (by first | rfl | (simp; done) | (simp [*]; done)), H', ⟨by have := HK1.out; have := HK2.out; have := HK3.out; omega⟩, ⟨by (try simp only [hl11_1]); (with_reducible repeat (first | apply Kd.R_alloc | apply Kd.R_drewN | apply Kd.R_drew)); exact HO_11.out⟩, ⟨by (try simp only [hl11_1]); (with_reducible repeat (first | apply Kd.R_alloc | apply Kd.R_drewN | apply Kd.R_drew)); exact HO378.out⟩, ⟨by (try simp only [hl11_1]); (with_reducible repeat (first | apply Kd.R_alloc | apply Kd.R_drewN | apply Kd.R_drew)); exact HO_62.out⟩, ⟨by repeat (first | (with_reducible first | exact HB.out | apply below_alloc | apply pw_below_drewN | apply below_drew1) | exact HB.out)⟩⟩
       rw [if_neg c24] at H
       have c24b0 : decide (x17_3 < (rd y371 x64_2)) = false := decide_eq_false c24
       clear c24
       replace H := Option.bind_eq_some_iff.mp H
       obtain ⟨⟨t379, t382, t385, t388, t391⟩, A270, H⟩ := H
       replace H : (if (rd y371 x64_2) > (wrap64 (ji5 * ji5)) then (if t391 = 4 then (letterbaglaw28_SequenceEqual.l1 k3 ji5 (wrap64 (1 + (Int.tmod (wrap64 (a1)) 100))) x11_1 y371 (y371.length : Int) (wrap64 (x64_2 + 1))) else (some false)) else (if t391 = 0 then (letterbaglaw28_SequenceEqual.j3 k3 ji5 (wrap64 (1 + (Int.tmod (wrap64 (a1)) 100))) x11_1 y371 (y371.length : Int) x64_2 ((t382.length : Int) != (rd y371 x64_2)) t379 t382 t385 t388) else (letterbaglaw28_SequenceEqual.j3 k3 ji5 (wrap64 (1 + (Int.tmod (wrap64 (a1)) 100))) x11_1 y371 (y371.length : Int) x64_2 true t379 t382 t385 t388))) = some r := H
       have A27 := Aside0.mk A270
       clear A270
       by_cases c28 : (rd y371 x64_2) > (wrap64 (ji5 * ji5))
       ·rw [if_pos c28] at H
        have c28b0 : decide ((wrap64 (ji5 * ji5)) < (rd y371 x64_2)) = true := decide_eq_true c28
        clear c28
        by_cases c29 : t391 = 4
        rotate_left
        ·rw [if_neg c29] at H
         have c29b0 : (t391 == 4) = false := beq_eq_false_iff_ne.mpr c29
         have c29b1 : (t391 != 4) = true := bne_iff_ne.mpr c29
         obtain rfl := Option.some.inj H
         obtain ⟨Ao38, co38, eo38⟩ := Kd.R_slice HO_16.out
         subst eo38
         go_wp2_with (first | ((with_reducible refine gate_callee (f := 16) rfl ?_); refine goesL_ (some 83) rfl rfl Try.func16 (by kernel_rfl) rfl #[.slice Ao38 x16_3.length co38, .slice Ao10 x11_1.length co10] rfl (by (try simp only [List.map_toArray, List.map_cons, List.map_nil]); first | done | rfl | (simp only [List.length_drop, List.length_take]; rfl)) ?_; (with_reducible refine (sequence_Make.calls _ _ x16_3 _ _ x11_1 t379 t382 t385 t388 t391 _ ?side1 ?side2 ?side3 ?side4 A27.out).mono ?_); (case side1 => repeat (first | exact (Kd.R_reads' HO_16.out).2.2 | (with_reducible refine Kd.C_alloc ?_ _) | (with_reducible refine Kd.C_drewN ?_ _) | (with_reducible refine Kd.C_drew ?_))); (case side2 => exact (Kd.R_reads' HO_16.out).2.1); (case side3 => repeat (first | exact (Kd.R_reads' HO_11.out).2.2 | (with_reducible refine Kd.C_alloc ?_ _) | (with_reducible refine Kd.C_drewN ?_ _) | (with_reducible refine Kd.C_drew ?_))); (case side4 => exact (Kd.R_reads' HO_11.out).2.1); rintro e w39 ⟨v380, v383, v386, v389, rfl, ho0, ho1, ho2, ho3, hb⟩; refine ⟨_, rfl, ?_⟩; have n0_ := Aside0.mk (Kd.R_mono (Kd.R_told (Kd.R_told (Kd.R_told (Kd.R_old (by (with_reducible repeat (first | apply Kd.R_alloc | apply Kd.R_drewN | apply Kd.R_drew)); exact HO_11.out) hb) (Kd.R_base ho0)) (Kd.R_base ho2)) (Kd.R_base ho3)) (fun _ h_ => h_.1)); have n1_ := Aside0.mk (Kd.R_below (by (with_reducible repeat (first | apply Kd.R_alloc | apply Kd.R_drewN | apply Kd.R_drew)); exact HO_16.out) hb); have n2_ := Aside0.mk (Kd.R_mono (Kd.R_told (Kd.R_told (Kd.R_told (Kd.R_old (by (with_reducible repeat (first | apply Kd.R_alloc | apply Kd.R_drewN | apply Kd.R_drew)); exact HO_62.out) hb) (Kd.R_base ho0)) (Kd.R_base ho2)) (Kd.R_base ho3)) (fun _ h_ => h_.1)); have n3_ := Aside0.mk (Kd.R_lower (Kd.R_new' (Kd.R_new' ho0 (Kd.R_lt (by (with_reducible repeat (first | apply Kd.R_alloc | apply Kd.R_drewN | apply Kd.R_drew)); exact HO_11.out))) (Kd.R_lt (by (with_reducible repeat (first | apply Kd.R_alloc | apply Kd.R_drewN | apply Kd.R_drew)); exact HO_62.out))) (below_size (by repeat (first | (with_reducible first | exact HB.out | apply below_alloc | apply pw_below_drewN | apply below_drew1) | exact HB.out)))); have n4_ := Aside0.mk (Kd.R_lower ho1 (below_size (by repeat (first | (with_reducible first | exact HB.out | apply below_alloc | apply pw_below_drewN | apply below_drew1) | exact HB.out)))); have n5_ := Aside0.mk (Kd.R_lower (Kd.R_new' (Kd.R_new' ho2 (Kd.R_lt (by (with_reducible repeat (first | apply Kd.R_alloc | apply Kd.R_drewN | apply Kd.R_drew)); exact HO_11.out))) (Kd.R_lt (by (with_reducible repeat (first | apply Kd.R_alloc | apply Kd.R_drewN | apply Kd.R_drew)); exact HO_62.out))) (below_size (by repeat (first | (with_reducible first | exact HB.out | apply below_alloc | apply pw_below_drewN | apply below_drew1) | exact HB.out)))); have n6_ := Aside0.mk (Kd.R_lower (Kd.R_new' (Kd.R_new' ho3 (Kd.R_lt (by (with_reducible repeat (first | apply Kd.R_alloc | apply Kd.R_drewN | apply Kd.R_drew)); exact HO_11.out))) (Kd.R_lt (by (with_reducible repeat (first | apply Kd.R_alloc | apply Kd.R_drewN | apply Kd.R_drew)); exact HO_62.out))) (below_size (by repeat (first | (with_reducible first | exact HB.out | apply below_alloc | apply pw_below_drewN | apply below_drew1) | exact HB.out)))); have n7_ := Aside0.mk (below_step (by repeat (first | (with_reducible first | exact HB.out | apply below_alloc | apply pw_below_drewN | apply below_drew1) | exact HB.out)) hb); clear HO_11; clear HO_16; clear HO_62; clear HB; have HO_11 := n0_; have HO_16 := n1_; have HO_62 := n2_; have HO381 := n3_; have HO384 := n4_; have HO387 := n5_; have HO390 := n6_; have HB := n7_; clear n0_ n1_ n2_ n3_ n4_ n5_ n6_ n7_; (try clear hb); (try clear hb2); (try clear hk); (try clear hi); (try clear ho0); (try clear ho1); (try clear ho2); (try clear ho3)) | ((with_reducible refine gate_dst (N := 18) rfl ?_); (try (refine gate_guard (by rfl) ?_; dsimp only)); refine box_event ?hg (N := 18) ?hd (cs := #[.slice none 0 0, .slice none 0 0, .slice none 0 0, .slice none 0 0]) (t := 38) ?hr ?_; (case hd => rfl); (case hg => rfl); (case hr => first | (go_simp; done) | (go_simp; rfl)); intro gb392 hg w40 hbox hb; have n0_ := Aside0.mk (Kd.R_below (by (with_reducible repeat (first | apply Kd.R_alloc | apply Kd.R_drewN | apply Kd.R_drew)); exact HO_11.out) hb); have n1_ := Aside0.mk (Kd.R_below (by (with_reducible repeat (first | apply Kd.R_alloc | apply Kd.R_drewN | apply Kd.R_drew)); exact HO_16.out) hb); have n2_ := Aside0.mk (Kd.R_below (by (with_reducible repeat (first | apply Kd.R_alloc | apply Kd.R_drewN | apply Kd.R_drew)); exact HO_62.out) hb); have n3_ := Aside0.mk (Kd.R_below (by (with_reducible repeat (first | apply Kd.R_alloc | apply Kd.R_drewN | apply Kd.R_drew)); exact HO381.out) hb); have n4_ := Aside0.mk (Kd.R_below (by (with_reducible repeat (first | apply Kd.R_alloc | apply Kd.R_drewN | apply Kd.R_drew)); exact HO384.out) hb); have n5_ := Aside0.mk (Kd.R_below (by (with_reducible repeat (first | apply Kd.R_alloc | apply Kd.R_drewN | apply Kd.R_drew)); exact HO387.out) hb); have n6_ := Aside0.mk (Kd.R_below (by (with_reducible repeat (first | apply Kd.R_alloc | apply Kd.R_drewN | apply Kd.R_drew)); exact HO390.out) hb); have n7_ := Aside0.mk (below_step (by repeat (first | (with_reducible first | exact HB.out | apply below_alloc | apply pw_below_drewN | apply below_drew1) | exact HB.out)) hb); have n8_ := Aside0.mk (hbox); have n9_ := Aside0.mk ((by rw [hg]; exact (below_size (by repeat (first | (with_reducible first | exact HB.out | apply below_alloc | apply pw_below_drewN | apply below_drew1) | exact HB.out))) : w.heap.size ≤ gb392)); have n10_ := Aside0.mk ((by rw [hg]; exact (below_size (by repeat (first | (with_reducible first | exact HB.out | apply below_alloc | apply pw_below_drewN | apply below_drew1) | exact HB.out))) : w.heap.size ≤ gb392)); clear HO_11; clear HO_16; clear HO_62; clear HO381; clear HO384; clear HO387; clear HO390; clear HB; have HO_11 := n0_; have HO_16 := n1_; have HO_62 := n2_; have HO381 := n3_; have HO384 := n4_; have HO387 := n5_; have HO390 := n6_; have HB := n7_; have BK392 := n8_; have GW392 := n9_; have GE392 := n10_; clear n0_ n1_ n2_ n3_ n4_ n5_ n6_ n7_ n8_ n9_ n10_; clear hb hbox hg; obtain ⟨Ao41, co41, eo41⟩ := Kd.R_slice HO381.out; subst eo41; have hcz42_0 : w40.cell? ⟨gb392, 0, none⟩ = some (.slice none 0 0) := (blk_cell BK392.out 0).trans rfl; have hcz42_1 : w40.cell? ⟨gb392, 1, none⟩ = some (.slice none 0 0) := (blk_cell BK392.out 1).trans rfl; have hcz42_2 : w40.cell? ⟨gb392, 2, none⟩ = some (.slice none 0 0) := (blk_cell BK392.out 2).trans rfl; have hcz42_3 : w40.cell? ⟨gb392, 3, none⟩ = some (.slice none 0 0) := (blk_cell BK392.out 3).trans rfl; have hfz42_0 := blk_frozen BK392.out 0; have hfz42_1 := blk_frozen BK392.out 1; have hfz42_2 := blk_frozen BK392.out 2; have hfz42_3 := blk_frozen BK392.out 3; obtain ⟨Ao43, co43, eo43⟩ := Kd.R_slice HO384.out; subst eo43; obtain ⟨Ao44, co44, eo44⟩ := Kd.R_slice HO387.out; subst eo44; obtain ⟨Ao45, co45, eo45⟩ := Kd.R_slice HO390.out; subst eo45))
         go_ret
         exact ⟨by first | rfl | (simp [errW_none, errW_some] <;> rfl) | (simp only [← hji5]; first | rfl | (simp [errW_none, errW_some] <;> rfl)) | (simp [*, errW_none, errW_some] <;> rfl), by repeat (first | (with_reducible first | exact HB.out | apply below_alloc | apply pw_below_drewN | apply below_drew1 | refine below_set ?_ GE392.out) | exact HB.out)⟩
        rw [if_pos c29] at H
        have c29b0 : (t391 == 4) = true := beq_iff_eq.mpr c29
        have c29b1 : (t391 != 4) = false := bne_eq_false_iff_eq.mpr c29
        clear c29
        have H' := Aside0.mk H
        clear H
        obtain ⟨Ao30, co30, eo30⟩ := Kd.R_slice HO_16.out
        subst eo30
        go_wp2_with (first | ((with_reducible refine gate_callee (f := 16) rfl ?_); refine goesL_ (some 83) rfl rfl Try.func16 (by kernel_rfl) rfl #[.slice Ao30 x16_3.length co30, .slice Ao10 x11_1.length co10] rfl (by (try simp only [List.map_toArray, List.map_cons, List.map_nil]); first | done | rfl | (simp only [List.length_drop, List.length_take]; rfl)) ?_; (with_reducible refine (sequence_Make.calls _ _ x16_3 _ _ x11_1 t379 t382 t385 t388 t391 _ ?side1 ?side2 ?side3 ?side4 A27.out).mono ?_); (case side1 => repeat (first | exact (Kd.R_reads' HO_16.out).2.2 | (with_reducible refine Kd.C_alloc ?_ _) | (with_reducible refine Kd.C_drewN ?_ _) | (with_reducible refine Kd.C_drew ?_))); (case side2 => exact (Kd.R_reads' HO_16.out).2.1); (case side3 => repeat (first | exact (Kd.R_reads' HO_11.out).2.2 | (with_reducible refine Kd.C_alloc ?_ _) | (with_reducible refine Kd.C_drewN ?_ _) | (with_reducible refine Kd.C_drew ?_))); (case side4 => exact (Kd.R_reads' HO_11.out).2.1); rintro e w31 ⟨v380, v383, v386, v389, rfl, ho0, ho1, ho2, ho3, hb⟩; refine ⟨_, rfl, ?_⟩; have n0_ := Aside0.mk (Kd.R_mono (Kd.R_told (Kd.R_told (Kd.R_told (Kd.R_old (by (with_reducible repeat (first | apply Kd.R_alloc | apply Kd.R_drewN | apply Kd.R_drew)); exact HO_11.out) hb) (Kd.R_base ho0)) (Kd.R_base ho2)) (Kd.R_base ho3)) (fun _ h_ => h_.1)); have n1_ := Aside0.mk (Kd.R_below (by (with_reducible repeat (first | apply Kd.R_alloc | apply Kd.R_drewN | apply Kd.R_drew)); exact HO_16.out) hb); have n2_ := Aside0.mk (Kd.R_mono (Kd.R_told (Kd.R_told (Kd.R_told (Kd.R_old (by (with_reducible repeat (first | apply Kd.R_alloc | apply Kd.R_drewN | apply Kd.R_drew)); exact HO_62.out) hb) (Kd.R_base ho0)) (Kd.R_base ho2)) (Kd.R_base ho3)) (fun _ h_ => h_.1)); have n3_ := Aside0.mk (Kd.R_lower (Kd.R_new' (Kd.R_new' ho0 (Kd.R_lt (by (with_reducible repeat (first | apply Kd.R_alloc | apply Kd.R_drewN | apply Kd.R_drew)); exact HO_11.out))) (Kd.R_lt (by (with_reducible repeat (first | apply Kd.R_alloc | apply Kd.R_drewN | apply Kd.R_drew)); exact HO_62.out))) (below_size (by repeat (first | (with_reducible first | exact HB.out | apply below_alloc | apply pw_below_drewN | apply below_drew1) | exact HB.out)))); have n4_ := Aside0.mk (Kd.R_lower ho1 (below_size (by repeat (first | (with_reducible first | exact HB.out | apply below_alloc | apply pw_below_drewN | apply below_drew1) | exact HB.out)))); have n5_ := Aside0.mk (Kd.R_lower (Kd.R_new' (Kd.R_new' ho2 (Kd.R_lt (by (with_reducible repeat (first | apply Kd.R_alloc | apply Kd.R_drewN | apply Kd.R_drew)); exact HO_11.out))) (Kd.R_lt (by (with_reducible repeat (first | apply Kd.R_alloc | apply Kd.R_drewN | apply Kd.R_drew)); exact HO_62.out))) (below_size (by repeat (first | (with_reducible first | exact HB.out | apply below_alloc | apply pw_below_drewN | apply below_drew1) | exact HB.out)))); have n6_ := Aside0.mk (Kd.R_lower (Kd.R_new' (Kd.R_new' ho3 (Kd.R_lt (by (with_reducible repeat (first | apply Kd.R_alloc | apply Kd.R_drewN | apply Kd.R_drew)); exact HO_11.out))) (Kd.R_lt (by (with_reducible repeat (first | apply Kd.R_alloc | apply Kd.R_drewN | apply Kd.R_drew)); exact HO_62.out))) (below_size (by repeat (first | (with_reducible first | exact HB.out | apply below_alloc | apply pw_below_drewN | apply below_drew1) | exact HB.out)))); have n7_ := Aside0.mk (below_step (by repeat (first | (with_reducible first | exact HB.out | apply below_alloc | apply pw_below_drewN | apply below_drew1) | exact HB.out)) hb); clear HO_11; clear HO_16; clear HO_62; clear HB; have HO_11 := n0_; have HO_16 := n1_; have HO_62 := n2_; have HO381 := n3_; have HO384 := n4_; have HO387 := n5_; have HO390 := n6_; have HB := n7_; clear n0_ n1_ n2_ n3_ n4_ n5_ n6_ n7_; (try clear hb); (try clear hb2); (try clear hk); (try clear hi); (try clear ho0); (try clear ho1); (try clear ho2); (try clear ho3)) | ((with_reducible refine gate_dst (N := 18) rfl ?_); (try (refine gate_guard (by rfl) ?_; dsimp only)); refine box_event ?hg (N := 18) ?hd (cs := #[.slice none 0 0, .slice none 0 0, .slice none 0 0, .slice none 0 0]) (t := 38) ?hr ?_; (case hd => rfl); (case hg => rfl); (case hr => first | (go_simp; done) | (go_simp; rfl)); intro gb392 hg w32 hbox hb; have n0_ := Aside0.mk (Kd.R_below (by (with_reducible repeat (first | apply Kd.R_alloc | apply Kd.R_drewN | apply Kd.R_drew)); exact HO_11.out) hb); have n1_ := Aside0.mk (Kd.R_below (by (with_reducible repeat (first | apply Kd.R_alloc | apply Kd.R_drewN | apply Kd.R_drew)); exact HO_16.out) hb); have n2_ := Aside0.mk (Kd.R_below (by (with_reducible repeat (first | apply Kd.R_alloc | apply Kd.R_drewN | apply Kd.R_drew)); exact HO_62.out) hb); have n3_ := Aside0.mk (Kd.R_below (by (with_reducible repeat (first | apply Kd.R_alloc | apply Kd.R_drewN | apply Kd.R_drew)); exact HO381.out) hb); have n4_ := Aside0.mk (Kd.R_below (by (with_reducible repeat (first | apply Kd.R_alloc | apply Kd.R_drewN | apply Kd.R_drew)); exact HO384.out) hb); have n5_ := Aside0.mk (Kd.R_below (by (with_reducible repeat (first | apply Kd.R_alloc | apply Kd.R_drewN | apply Kd.R_drew)); exact HO387.out) hb); have n6_ := Aside0.mk (Kd.R_below (by (with_reducible repeat (first | apply Kd.R_alloc | apply Kd.R_drewN | apply Kd.R_drew)); exact HO390.out) hb); have n7_ := Aside0.mk (below_step (by repeat (first | (with_reducible first | exact HB.out | apply below_alloc | apply pw_below_drewN | apply below_drew1) | exact HB.out)) hb); have n8_ := Aside0.mk (hbox); have n9_ := Aside0.mk ((by rw [hg]; exact (below_size (by repeat (first | (with_reducible first | exact HB.out | apply below_alloc | apply pw_below_drewN | apply below_drew1) | exact HB.out))) : w.heap.size ≤ gb392)); have n10_ := Aside0.mk ((by rw [hg]; exact (below_size (by repeat (first | (with_reducible first | exact HB.out | apply below_alloc | apply pw_below_drewN | apply below_drew1) | exact HB.out))) : w.heap.size ≤ gb392)); clear HO_11; clear HO_16; clear HO_62; clear HO381; clear HO384; clear HO387; clear HO390; clear HB; have HO_11 := n0_; have HO_16 := n1_; have HO_62 := n2_; have HO381 := n3_; have HO384 := n4_; have HO387 := n5_; have HO390 := n6_; have HB := n7_; have BK392 := n8_; have GW392 := n9_; have GE392 := n10_; clear n0_ n1_ n2_ n3_ n4_ n5_ n6_ n7_ n8_ n9_ n10_; clear hb hbox hg; obtain ⟨Ao33, co33, eo33⟩ := Kd.R_slice HO381.out; subst eo33; have hcz34_0 : w32.cell? ⟨gb392, 0, none⟩ = some (.slice none 0 0) := (blk_cell BK392.out 0).trans rfl; have hcz34_1 : w32.cell? ⟨gb392, 1, none⟩ = some (.slice none 0 0) := (blk_cell BK392.out 1).trans rfl; have hcz34_2 : w32.cell? ⟨gb392, 2, none⟩ = some (.slice none 0 0) := (blk_cell BK392.out 2).trans rfl; have hcz34_3 : w32.cell? ⟨gb392, 3, none⟩ = some (.slice none 0 0) := (blk_cell BK392.out 3).trans rfl; have hfz34_0 := blk_frozen BK392.out 0; have hfz34_1 := blk_frozen BK392.out 1; have hfz34_2 := blk_frozen BK392.out 2; have hfz34_3 := blk_frozen BK392.out 3; obtain ⟨Ao35, co35, eo35⟩ := Kd.R_slice HO384.out; subst eo35; obtain ⟨Ao36, co36, eo36⟩ := Kd.R_slice HO387.out; subst eo36; obtain ⟨Ao37, co37, eo37⟩ := Kd.R_slice HO390.out; subst eo37))
        go_roundg k3
        case measure => have := HK1.out; have := HK2.out; have := HK3.out; omega
        case rel => exact ⟨(wrap64 (x64_2 + 1)), (by first | rfl | (simp; done) | (simp [*]; done)), H', ⟨by have := HK1.out; have := HK2.out; have := HK3.out; omega⟩, ⟨by (try simp only [hl11_1]); (with_reducible repeat (first | apply Kd.R_alloc | apply Kd.R_drewN | apply Kd.R_drew)); exact Kd.R_mono (Kd.R_far (p := ⟨gb392, 3, none⟩) (Kd.R_far (p := ⟨gb392, 2, none⟩) (Kd.R_far (p := ⟨gb392, 1, none⟩) (Kd.R_far (p := ⟨gb392, 0, none⟩) (Kd.R_types HO_11.out BK392.out (by decide)) (fun _ hk => hk.2) (.slice Ao33 t379.length co33)) (fun _ hk => hk.2) (.slice Ao35 t382.length co35)) (fun _ hk => hk.2) (.slice Ao36 t385.length co36)) (fun _ hk => hk.2) (.slice Ao37 t388.length co37)) (fun _ hk => hk.1.1.1.1)⟩, ⟨by (try simp only [hl11_1]); (with_reducible repeat (first | apply Kd.R_alloc | apply Kd.R_drewN | apply Kd.R_drew)); exact Kd.R_mono (Kd.R_far (p := ⟨gb392, 3, none⟩) (Kd.R_far (p := ⟨gb392, 2, none⟩) (Kd.R_far (p := ⟨gb392, 1, none⟩) (Kd.R_far (p := ⟨gb392, 0, none⟩) (Kd.R_types HO_62.out BK392.out (by decide)) (fun _ hk => hk.2) (.slice Ao33 t379.length co33)) (fun _ hk => hk.2) (.slice Ao35 t382.length co35)) (fun _ hk => hk.2) (.slice Ao36 t385.length co36)) (fun _ hk => hk.2) (.slice Ao37 t388.length co37)) (fun _ hk => hk.1.1.1.1)⟩, ⟨by repeat (first | (with_reducible first | exact HB.out | apply below_alloc | apply pw_below_drewN | apply below_drew1 | refine below_set ?_ GE392.out) | exact HB.out)⟩⟩
       rw [if_neg c28] at H
       have c28b0 : decide ((wrap64 (ji5 * ji5)) < (rd y371 x64_2)) = false := decide_eq_false c28
       clear c28
       have HC46 := Aside0.mk H
       clear H
       obtain ⟨Ao47, co47, eo47⟩ := Kd.R_slice HO_16.out
       subst eo47
       go_upto_region 21 with (first | ((with_reducible refine gate_callee (f := 16) rfl ?_); refine goesL_ (some 83) rfl rfl Try.func16 (by kernel_rfl) rfl #[.slice Ao47 x16_3.length co47, .slice Ao10 x11_1.length co10] rfl (by (try simp only [List.map_toArray, List.map_cons, List.map_nil]); first | done | rfl | (simp only [List.length_drop, List.length_take]; rfl)) ?_; (with_reducible refine (sequence_Make.calls _ _ x16_3 _ _ x11_1 t379 t382 t385 t388 t391 _ ?side1 ?side2 ?side3 ?side4 A27.out).mono ?_); (case side1 => repeat (first | exact (Kd.R_reads' HO_16.out).2.2 | (with_reducible refine Kd.C_alloc ?_ _) | (with_reducible refine Kd.C_drewN ?_ _) | (with_reducible refine Kd.C_drew ?_))); (case side2 => exact (Kd.R_reads' HO_16.out).2.1); (case side3 => repeat (first | exact (Kd.R_reads' HO_11.out).2.2 | (with_reducible refine Kd.C_alloc ?_ _) | (with_reducible refine Kd.C_drewN ?_ _) | (with_reducible refine Kd.C_drew ?_))); (case side4 => exact (Kd.R_reads' HO_11.out).2.1); rintro e w48 ⟨v380, v383, v386, v389, rfl, ho0, ho1, ho2, ho3, hb⟩; refine ⟨_, rfl, ?_⟩; have n0_ := Aside0.mk (Kd.R_mono (Kd.R_told (Kd.R_told (Kd.R_told (Kd.R_old (by (with_reducible repeat (first | apply Kd.R_alloc | apply Kd.R_drewN | apply Kd.R_drew)); exact HO_11.out) hb) (Kd.R_base ho0)) (Kd.R_base ho2)) (Kd.R_base ho3)) (fun _ h_ => h_.1)); have n1_ := Aside0.mk (Kd.R_below (by (with_reducible repeat (first | apply Kd.R_alloc | apply Kd.R_drewN | apply Kd.R_drew)); exact HO_16.out) hb); have n2_ := Aside0.mk (Kd.R_mono (Kd.R_told (Kd.R_told (Kd.R_told (Kd.R_old (by (with_reducible repeat (first | apply Kd.R_alloc | apply Kd.R_drewN | apply Kd.R_drew)); exact HO_62.out) hb) (Kd.R_base ho0)) (Kd.R_base ho2)) (Kd.R_base ho3)) (fun _ h_ => h_.1)); have n3_ := Aside0.mk (Kd.R_lower (Kd.R_new' (Kd.R_new' ho0 (Kd.R_lt (by (with_reducible repeat (first | apply Kd.R_alloc | apply Kd.R_drewN | apply Kd.R_drew)); exact HO_11.out))) (Kd.R_lt (by (with_reducible repeat (first | apply Kd.R_alloc | apply Kd.R_drewN | apply Kd.R_drew)); exact HO_62.out))) (below_size (by repeat (first | (with_reducible first | exact HB.out | apply below_alloc | apply pw_below_drewN | apply below_drew1) | exact HB.out)))); have n4_ := Aside0.mk (Kd.R_lower ho1 (below_size (by repeat (first | (with_reducible first | exact HB.out | apply below_alloc | apply pw_below_drewN | apply below_drew1) | exact HB.out)))); have n5_ := Aside0.mk (Kd.R_lower (Kd.R_new' (Kd.R_new' ho2 (Kd.R_lt (by (with_reducible repeat (first | apply Kd.R_alloc | apply Kd.R_drewN | apply Kd.R_drew)); exact HO_11.out))) (Kd.R_lt (by (with_reducible repeat (first | apply Kd.R_alloc | apply Kd.R_drewN | apply Kd.R_drew)); exact HO_62.out))) (below_size (by repeat (first | (with_reducible first | exact HB.out | apply below_alloc | apply pw_below_drewN | apply below_drew1) | exact HB.out)))); have n6_ := Aside0.mk (Kd.R_lower (Kd.R_new' (Kd.R_new' ho3 (Kd.R_lt (by (with_reducible repeat (first | apply Kd.R_alloc | apply Kd.R_drewN | apply Kd.R_drew)); exact HO_11.out))) (Kd.R_lt (by (with_reducible repeat (first | apply Kd.R_alloc | apply Kd.R_drewN | apply Kd.R_drew)); exact HO_62.out))) (below_size (by repeat (first | (with_reducible first | exact HB.out | apply below_alloc | apply pw_below_drewN | apply below_drew1) | exact HB.out)))); have n7_ := Aside0.mk (below_step (by repeat (first | (with_reducible first | exact HB.out | apply below_alloc | apply pw_below_drewN | apply below_drew1) | exact HB.out)) hb); clear HO_11; clear HO_16; clear HO_62; clear HB; have HO_11 := n0_; have HO_16 := n1_; have HO_62 := n2_; have HO381 := n3_; have HO384 := n4_; have HO387 := n5_; have HO390 := n6_; have HB := n7_; clear n0_ n1_ n2_ n3_ n4_ n5_ n6_ n7_; (try clear hb); (try clear hb2); (try clear hk); (try clear hi); (try clear ho0); (try clear ho1); (try clear ho2); (try clear ho3)) | ((with_reducible refine gate_dst (N := 18) rfl ?_); (try (refine gate_guard (by rfl) ?_; dsimp only)); refine box_event ?hg (N := 18) ?hd (cs := #[.slice none 0 0, .slice none 0 0, .slice none 0 0, .slice none 0 0]) (t := 38) ?hr ?_; (case hd => rfl); (case hg => rfl); (case hr => first | (go_simp; done) | (go_simp; rfl)); intro gb392 hg w49 hbox hb; have n0_ := Aside0.mk (Kd.R_below (by (with_reducible repeat (first | apply Kd.R_alloc | apply Kd.R_drewN | apply Kd.R_drew)); exact HO_11.out) hb); have n1_ := Aside0.mk (Kd.R_below (by (with_reducible repeat (first | apply Kd.R_alloc | apply Kd.R_drewN | apply Kd.R_drew)); exact HO_16.out) hb); have n2_ := Aside0.mk (Kd.R_below (by (with_reducible repeat (first | apply Kd.R_alloc | apply Kd.R_drewN | apply Kd.R_drew)); exact HO_62.out) hb); have n3_ := Aside0.mk (Kd.R_below (by (with_reducible repeat (first | apply Kd.R_alloc | apply Kd.R_drewN | apply Kd.R_drew)); exact HO381.out) hb); have n4_ := Aside0.mk (Kd.R_below (by (with_reducible repeat (first | apply Kd.R_alloc | apply Kd.R_drewN | apply Kd.R_drew)); exact HO384.out) hb); have n5_ := Aside0.mk (Kd.R_below (by (with_reducible repeat (first | apply Kd.R_alloc | apply Kd.R_drewN | apply Kd.R_drew)); exact HO387.out) hb); have n6_ := Aside0.mk (Kd.R_below (by (with_reducible repeat (first | apply Kd.R_alloc | apply Kd.R_drewN | apply Kd.R_drew)); exact HO390.out) hb); have n7_ := Aside0.mk (below_step (by repeat (first | (with_reducible first | exact HB.out | apply below_alloc | apply pw_below_drewN | apply below_drew1) | exact HB.out)) hb); have n8_ := Aside0.mk (hbox); have n9_ := Aside0.mk ((by rw [hg]; exact (below_size (by repeat (first | (with_reducible first | exact HB.out | apply below_alloc | apply pw_below_drewN | apply below_drew1) | exact HB.out))) : w.heap.size ≤ gb392)); have n10_ := Aside0.mk ((by rw [hg]; exact (below_size (by repeat (first | (with_reducible first | exact HB.out | apply below_alloc | apply pw_below_drewN | apply below_drew1) | exact HB.out))) : w.heap.size ≤ gb392)); clear HO_11; clear HO_16; clear HO_62; clear HO381; clear HO384; clear HO387; clear HO390; clear HB; have HO_11 := n0_; have HO_16 := n1_; have HO_62 := n2_; have HO381 := n3_; have HO384 := n4_; have HO387 := n5_; have HO390 := n6_; have HB := n7_; have BK392 := n8_; have GW392 := n9_; have GE392 := n10_; clear n0_ n1_ n2_ n3_ n4_ n5_ n6_ n7_ n8_ n9_ n10_; clear hb hbox hg; obtain ⟨Ao50, co50, eo50⟩ := Kd.R_slice HO381.out; subst eo50; have hcz51_0 : w49.cell? ⟨gb392, 0, none⟩ = some (.slice none 0 0) := (blk_cell BK392.out 0).trans rfl; have hcz51_1 : w49.cell? ⟨gb392, 1, none⟩ = some (.slice none 0 0) := (blk_cell BK392.out 1).trans rfl; have hcz51_2 : w49.cell? ⟨gb392, 2, none⟩ = some (.slice none 0 0) := (blk_cell BK392.out 2).trans rfl; have hcz51_3 : w49.cell? ⟨gb392, 3, none⟩ = some (.slice none 0 0) := (blk_cell BK392.out 3).trans rfl; have hfz51_0 := blk_frozen BK392.out 0; have hfz51_1 := blk_frozen BK392.out 1; have hfz51_2 := blk_frozen BK392.out 2; have hfz51_3 := blk_frozen BK392.out 3; obtain ⟨Ao52, co52, eo52⟩ := Kd.R_slice HO384.out; subst eo52; obtain ⟨Ao53, co53, eo53⟩ := Kd.R_slice HO387.out; subst eo53; obtain ⟨Ao54, co54, eo54⟩ := Kd.R_slice HO390.out; subst eo54))
       (try simp only [Act.put, List.setIfInBounds_toArray, List.set_cons_zero, List.set_cons_succ])
       go_cut [101] (fun v101 wc => ∃ (kq : Nat) (x101_45 : Bool), v101 = .bool x101_45 ∧ Aside0 (letterbaglaw28_SequenceEqual.j3 kq ji5 (wrap64 (1 + (Int.tmod (wrap64 (a1)) 100))) x11_1 y371 (y371.length : Int) x64_2 x101_45 t379 t382 t385 t388 = some r) ∧ Aside0 (kq ≤ k3) ∧ Aside0 (Kd.R (Kd.int .i64) 3 wc w.heap.size (fun k_ => some k_ ≠ ((.slice (some ad375) y371.length co20) : Value).ownBlock ∧ some k_ ≠ ((.slice Ao50 t379.length co50) : Value).ownBlock ∧ some k_ ≠ ((.slice Ao53 t385.length co53) : Value).ownBlock ∧ some k_ ≠ ((.slice Ao54 t388.length co54) : Value).ownBlock) (.slice Ao10 x11_1.length co10) x11_1) ∧ Aside0 (Kd.R (Kd.int .i64) 3 wc w.heap.size (fun k_ => some k_ ≠ ((.slice Ao10 x11_1.length co10) : Value).ownBlock ∧ some k_ ≠ ((.slice Ao50 t379.length co50) : Value).ownBlock ∧ some k_ ≠ ((.slice Ao53 t385.length co53) : Value).ownBlock ∧ some k_ ≠ ((.slice Ao54 t388.length co54) : Value).ownBlock) (.slice (some ad375) y371.length co20) y371) ∧ Aside0 (Kd.R (Kd.int .i64) 3 wc w.heap.size (fun k_ => some k_ ≠ ((.slice Ao10 x11_1.length co10) : Value).ownBlock ∧ some k_ ≠ ((.slice (some ad375) y371.length co20) : Value).ownBlock ∧ some k_ ≠ ((.slice Ao53 t385.length co53) : Value).ownBlock ∧ some k_ ≠ ((.slice Ao54 t388.length co54) : Value).ownBlock) (.slice Ao50 t379.length co50) t379) ∧ Aside0 (Kd.R k60 60 wc w.heap.size (fun _ => True) (.slice Ao52 t382.length co52) t382) ∧ Aside0 (Kd.R (Kd.int .i64) 3 wc w.heap.size (fun k_ => some k_ ≠ ((.slice Ao10 x11_1.length co10) : Value).ownBlock ∧ some k_ ≠ ((.slice (some ad375) y371.length co20) : Value).ownBlock ∧ some k_ ≠ ((.slice Ao50 t379.length co50) : Value).ownBlock ∧ some k_ ≠ ((.slice Ao54 t388.length co54) : Value).ownBlock) (.slice Ao53 t385.length co53) t385) ∧ Aside0 (Kd.R (Kd.int .i64) 3 wc w.heap.size (fun k_ => some k_ ≠ ((.slice Ao10 x11_1.length co10) : Value).ownBlock ∧ some k_ ≠ ((.slice (some ad375) y371.length co20) : Value).ownBlock ∧ some k_ ≠ ((.slice Ao50 t379.length co50) : Value).ownBlock ∧ some k_ ≠ ((.slice Ao53 t385.length co53) : Value).ownBlock) (.slice Ao54 t388.length co54) t388) ∧ Aside0 (wc.heap[gb392]? = some (.cells #[(.slice Ao50 t379.length co50), (.slice Ao52 t382.length co52), (.slice Ao53 t385.length co53), (.slice Ao54 t388.length co54)] 38 (0, 0))) ∧ Aside0 (Below w.heap.size w wc))
       case first =>
        have H := HC46.out; clear HC46
        by_cases c55 : t391 = 0
        rotate_left
        ·rw [if_neg c55] at H
         have c55b0 : (t391 == 0) = false := beq_eq_false_iff_ne.mpr c55
         have c55b1 : (t391 != 0) = true := bne_iff_ne.mpr c55
         (first | rw [c55b0] | (simp only [i64_w, i32_w]; rw [c55b0]) | skip)
         have H' := Aside0.mk H
         clear H
         go_wp2
         go_meet
         case rel => exact ⟨_, (true), (by first | rfl | (simp; done) | (simp [*]; done)), H', ⟨by have := HK1.out; have := HK2.out; have := HK3.out; first | omega | exact Nat.le_refl _⟩, ⟨by (try simp only [hl11_1]); (with_reducible repeat (first | apply Kd.R_alloc | apply Kd.R_drewN | apply Kd.R_drew)); exact Kd.R_mono (Kd.R_far (p := ⟨gb392, 3, none⟩) (Kd.R_far (p := ⟨gb392, 2, none⟩) (Kd.R_far (p := ⟨gb392, 1, none⟩) (Kd.R_far (p := ⟨gb392, 0, none⟩) (Kd.R_types HO_11.out BK392.out (by decide)) (fun _ hk => hk.2) (.slice Ao50 t379.length co50)) (fun _ hk => hk.2) (.slice Ao52 t382.length co52)) (fun _ hk => hk.2) (.slice Ao53 t385.length co53)) (fun _ hk => hk.2) (.slice Ao54 t388.length co54)) (fun _ hk => ⟨hk.1.1.1.1, ⟨hk.1.1.1.2, ⟨hk.1.1.2, hk.1.2⟩⟩⟩)⟩, ⟨by (try simp only [hl11_1]); (with_reducible repeat (first | apply Kd.R_alloc | apply Kd.R_drewN | apply Kd.R_drew)); exact Kd.R_mono (Kd.R_far (p := ⟨gb392, 3, none⟩) (Kd.R_far (p := ⟨gb392, 2, none⟩) (Kd.R_far (p := ⟨gb392, 1, none⟩) (Kd.R_far (p := ⟨gb392, 0, none⟩) (Kd.R_types HO_62.out BK392.out (by decide)) (fun _ hk => hk.2) (.slice Ao50 t379.length co50)) (fun _ hk => hk.2) (.slice Ao52 t382.length co52)) (fun _ hk => hk.2) (.slice Ao53 t385.length co53)) (fun _ hk => hk.2) (.slice Ao54 t388.length co54)) (fun _ hk => ⟨hk.1.1.1.1, ⟨hk.1.1.1.2, ⟨hk.1.1.2, hk.1.2⟩⟩⟩)⟩, ⟨by (try simp only [hl11_1]); (with_reducible repeat (first | apply Kd.R_alloc | apply Kd.R_drewN | apply Kd.R_drew)); exact Kd.R_mono (Kd.R_far (p := ⟨gb392, 3, none⟩) (Kd.R_far (p := ⟨gb392, 2, none⟩) (Kd.R_far (p := ⟨gb392, 1, none⟩) (Kd.R_far (p := ⟨gb392, 0, none⟩) (Kd.R_types HO381.out BK392.out (by decide)) (fun _ hk => hk.2) (.slice Ao50 t379.length co50)) (fun _ hk => hk.2) (.slice Ao52 t382.length co52)) (fun _ hk => hk.2) (.slice Ao53 t385.length co53)) (fun _ hk => hk.2) (.slice Ao54 t388.length co54)) (fun _ hk => ⟨hk.1.1.2, ⟨hk.1.2, ⟨hk.1.1.1.1, hk.1.1.1.2⟩⟩⟩)⟩, ⟨by (try simp only [hl11_1]); (with_reducible repeat (first | apply Kd.R_alloc | apply Kd.R_drewN | apply Kd.R_drew)); exact Kd.R_mono (Kd.R_far (p := ⟨gb392, 3, none⟩) (Kd.R_far (p := ⟨gb392, 2, none⟩) (Kd.R_far (p := ⟨gb392, 1, none⟩) (Kd.R_far (p := ⟨gb392, 0, none⟩) (Kd.R_types HO384.out BK392.out (by decide)) (fun _ hk => hk.2) (.slice Ao50 t379.length co50)) (fun _ hk => hk.2) (.slice Ao52 t382.length co52)) (fun _ hk => hk.2) (.slice Ao53 t385.length co53)) (fun _ hk => hk.2) (.slice Ao54 t388.length co54)) (fun _ hk => trivial)⟩, ⟨by (try simp only [hl11_1]); (with_reducible repeat (first | apply Kd.R_alloc | apply Kd.R_drewN | apply Kd.R_drew)); exact Kd.R_mono (Kd.R_far (p := ⟨gb392, 3, none⟩) (Kd.R_far (p := ⟨gb392, 2, none⟩) (Kd.R_far (p := ⟨gb392, 1, none⟩) (Kd.R_far (p := ⟨gb392, 0, none⟩) (Kd.R_types HO387.out BK392.out (by decide)) (fun _ hk => hk.2) (.slice Ao50 t379.length co50)) (fun _ hk => hk.2) (.slice Ao52 t382.length co52)) (fun _ hk => hk.2) (.slice Ao53 t385.length co53)) (fun _ hk => hk.2) (.slice Ao54 t388.length co54)) (fun _ hk => ⟨hk.1.1.2, ⟨hk.1.2, ⟨hk.1.1.1.1, hk.1.1.1.2⟩⟩⟩)⟩, ⟨by (try simp only [hl11_1]); (with_reducible repeat (first | apply Kd.R_alloc | apply Kd.R_drewN | apply Kd.R_drew)); exact Kd.R_mono (Kd.R_far (p := ⟨gb392, 3, none⟩) (Kd.R_far (p := ⟨gb392, 2, none⟩) (Kd.R_far (p := ⟨gb392, 1, none⟩) (Kd.R_far (p := ⟨gb392, 0, none⟩) (Kd.R_types HO390.out BK392.out (by decide)) (fun _ hk => hk.2) (.slice Ao50 t379.length co50)) (fun _ hk => hk.2) (.slice Ao52 t382.length co52)) (fun _ hk => hk.2) (.slice Ao53 t385.length co53)) (fun _ hk => hk.2) (.slice Ao54 t388.length co54)) (fun _ hk => ⟨hk.1.1.2, ⟨hk.1.2, ⟨hk.1.1.1.1, hk.1.1.1.2⟩⟩⟩)⟩, ⟨by (try simp only [hl11_1]); (with_reducible repeat (first | refine blk_drewN ?_ _ | refine blk_drew ?_ | refine blk_alloc ?_ _)); refine blk_put (cs := #[.slice Ao50 t379.length co50, .slice Ao52 t382.length co52, .slice Ao53 t385.length co53, .slice none 0 0]) ?_ 3 _ rfl; (with_reducible repeat (first | refine blk_drewN ?_ _ | refine blk_drew ?_ | refine blk_alloc ?_ _)); refine blk_put (cs := #[.slice Ao50 t379.length co50, .slice Ao52 t382.length co52, .slice none 0 0, .slice none 0 0]) ?_ 2 _ rfl; (with_reducible repeat (first | refine blk_drewN ?_ _ | refine blk_drew ?_ | refine blk_alloc ?_ _)); refine blk_put (cs := #[.slice Ao50 t379.length co50, .slice none 0 0, .slice none 0 0, .slice none 0 0]) ?_ 1 _ rfl; (with_reducible repeat (first | refine blk_drewN ?_ _ | refine blk_drew ?_ | refine blk_alloc ?_ _)); refine blk_put (cs := #[.slice none 0 0, .slice none 0 0, .slice none 0 0, .slice none 0 0]) ?_ 0 _ rfl; (with_reducible repeat (first | refine blk_drewN ?_ _ | refine blk_drew ?_ | refine blk_alloc ?_ _)); exact BK392.out⟩, ⟨by repeat (first | (with_reducible first | exact HB.out | apply below_alloc | apply pw_below_drewN | apply below_drew1 | refine below_set ?_ GE392.out) | exact HB.out)⟩⟩
        rw [if_pos c55] at H
        have c55b0 : (t391 == 0) = true := beq_iff_eq.mpr c55
        have c55b1 : (t391 != 0) = false := bne_eq_false_iff_eq.mpr c55
        clear c55
        (first | rw [c55b0] | (simp only [i64_w, i32_w]; rw [c55b0]) | skip)
        have H' := Aside0.mk H
        clear H
        have hcz56_0 : w49.cell? ⟨gb392, 0, none⟩ = some (.slice none 0 0) := (blk_cell BK392.out 0).trans rfl
        have hcz56_1 : w49.cell? ⟨gb392, 1, none⟩ = some (.slice none 0 0) := (blk_cell BK392.out 1).trans rfl
        have hcz56_2 : w49.cell? ⟨gb392, 2, none⟩ = some (.slice none 0 0) := (blk_cell BK392.out 2).trans rfl
        have hcz56_3 : w49.cell? ⟨gb392, 3, none⟩ = some (.slice none 0 0) := (blk_cell BK392.out 3).trans rfl
        have hfz56_0 := blk_frozen BK392.out 0
        have hfz56_1 := blk_frozen BK392.out 1
        have hfz56_2 := blk_frozen BK392.out 2
        have hfz56_3 := blk_frozen BK392.out 3
        go_wp2
        go_meet
        case rel => exact ⟨_, (((t382.length : Int) != (rd y371 x64_2))), (by first | rfl | (simp; done) | (simp [*]; done)), H', ⟨by have := HK1.out; have := HK2.out; have := HK3.out; first | omega | exact Nat.le_refl _⟩, ⟨by (try simp only [hl11_1]); (with_reducible repeat (first | apply Kd.R_alloc | apply Kd.R_drewN | apply Kd.R_drew)); exact Kd.R_mono (Kd.R_far (p := ⟨gb392, 3, none⟩) (Kd.R_far (p := ⟨gb392, 2, none⟩) (Kd.R_far (p := ⟨gb392, 1, none⟩) (Kd.R_far (p := ⟨gb392, 0, none⟩) (Kd.R_types HO_11.out BK392.out (by decide)) (fun _ hk => hk.2) (.slice Ao50 t379.length co50)) (fun _ hk => hk.2) (.slice Ao52 t382.length co52)) (fun _ hk => hk.2) (.slice Ao53 t385.length co53)) (fun _ hk => hk.2) (.slice Ao54 t388.length co54)) (fun _ hk => ⟨hk.1.1.1.1, ⟨hk.1.1.1.2, ⟨hk.1.1.2, hk.1.2⟩⟩⟩)⟩, ⟨by (try simp only [hl11_1]); (with_reducible repeat (first | apply Kd.R_alloc | apply Kd.R_drewN | apply Kd.R_drew)); exact Kd.R_mono (Kd.R_far (p := ⟨gb392, 3, none⟩) (Kd.R_far (p := ⟨gb392, 2, none⟩) (Kd.R_far (p := ⟨gb392, 1, none⟩) (Kd.R_far (p := ⟨gb392, 0, none⟩) (Kd.R_types HO_62.out BK392.out (by decide)) (fun _ hk => hk.2) (.slice Ao50 t379.length co50)) (fun _ hk => hk.2) (.slice Ao52 t382.length co52)) (fun _ hk => hk.2) (.slice Ao53 t385.length co53)) (fun _ hk => hk.2) (.slice Ao54 t388.length co54)) (fun _ hk => ⟨hk.1.1.1.1, ⟨hk.1.1.1.2, ⟨hk.1.1.2, hk.1.2⟩⟩⟩)⟩, ⟨by (try simp only [hl11_1]); (with_reducible repeat (first | apply Kd.R_alloc | apply Kd.R_drewN | apply Kd.R_drew)); exact Kd.R_mono (Kd.R_far (p := ⟨gb392, 3, none⟩) (Kd.R_far (p := ⟨gb392, 2, none⟩) (Kd.R_far (p := ⟨gb392, 1, none⟩) (Kd.R_far (p := ⟨gb392, 0, none⟩) (Kd.R_types HO381.out BK392.out (by decide)) (fun _ hk => hk.2) (.slice Ao50 t379.length co50)) (fun _ hk => hk.2) (.slice Ao52 t382.length co52)) (fun _ hk => hk.2) (.slice Ao53 t385.length co53)) (fun _ hk => hk.2) (.slice Ao54 t388.length co54)) (fun _ hk => ⟨hk.1.1.2, ⟨hk.1.2, ⟨hk.1.1.1.1, hk.1.1.1.2⟩⟩⟩)⟩, ⟨by (try simp only [hl11_1]); (with_reducible repeat (first | apply Kd.R_alloc | apply Kd.R_drewN | apply Kd.R_drew)); exact Kd.R_mono (Kd.R_far (p := ⟨gb392, 3, none⟩) (Kd.R_far (p := ⟨gb392, 2, none⟩) (Kd.R_far (p := ⟨gb392, 1, none⟩) (Kd.R_far (p := ⟨gb392, 0, none⟩) (Kd.R_types HO384.out BK392.out (by decide)) (fun _ hk => hk.2) (.slice Ao50 t379.length co50)) (fun _ hk => hk.2) (.slice Ao52 t382.length co52)) (fun _ hk => hk.2) (.slice Ao53 t385.length co53)) (fun _ hk => hk.2) (.slice Ao54 t388.length co54)) (fun _ hk => trivial)⟩, ⟨by (try simp only [hl11_1]); (with_reducible repeat (first | apply Kd.R_alloc | apply Kd.R_drewN | apply Kd.R_drew)); exact Kd.R_mono (Kd.R_far (p := ⟨gb392, 3, none⟩) (Kd.R_far (p := ⟨gb392, 2, none⟩) (Kd.R_far (p := ⟨gb392, 1, none⟩) (Kd.R_far (p := ⟨gb392, 0, none⟩) (Kd.R_types HO387.out BK392.out (by decide)) (fun _ hk => hk.2) (.slice Ao50 t379.length co50)) (fun _ hk => hk.2) (.slice Ao52 t382.length co52)) (fun _ hk => hk.2) (.slice Ao53 t385.length co53)) (fun _ hk => hk.2) (.slice Ao54 t388.length co54)) (fun _ hk => ⟨hk.1.1.2, ⟨hk.1.2, ⟨hk.1.1.1.1, hk.1.1.1.2⟩⟩⟩)⟩, ⟨by (try simp only [hl11_1]); (with_reducible repeat (first | apply Kd.R_alloc | apply Kd.R_drewN | apply Kd.R_drew)); exact Kd.R_mono (Kd.R_far (p := ⟨gb392, 3, none⟩) (Kd.R_far (p := ⟨gb392, 2, none⟩) (Kd.R_far (p := ⟨gb392, 1, none⟩) (Kd.R_far (p := ⟨gb392, 0, none⟩) (Kd.R_types HO390.out BK392.out (by decide)) (fun _ hk => hk.2) (.slice Ao50 t379.length co50)) (fun _ hk => hk.2) (.slice Ao52 t382.length co52)) (fun _ hk => hk.2) (.slice Ao53 t385.length co53)) (fun _ hk => hk.2) (.slice Ao54 t388.length co54)) (fun _ hk => ⟨hk.1.1.2, ⟨hk.1.2, ⟨hk.1.1.1.1, hk.1.1.1.2⟩⟩⟩)⟩, ⟨by (try simp only [hl11_1]); (with_reducible repeat (first | refine blk_drewN ?_ _ | refine blk_drew ?_ | refine blk_alloc ?_ _)); refine blk_put (cs := #[.slice Ao50 t379.length co50, .slice Ao52 t382.length co52, .slice Ao53 t385.length co53, .slice none 0 0]) ?_ 3 _ rfl; (with_reducible repeat (first | refine blk_drewN ?_ _ | refine blk_drew ?_ | refine blk_alloc ?_ _)); refine blk_put (cs := #[.slice Ao50 t379.length co50, .slice Ao52 t382.length co52, .slice none 0 0, .slice none 0 0]) ?_ 2 _ rfl; (with_reducible repeat (first | refine blk_drewN ?_ _ | refine blk_drew ?_ | refine blk_alloc ?_ _)); refine blk_put (cs := #[.slice Ao50 t379.length co50, .slice none 0 0, .slice none 0 0, .slice none 0 0]) ?_ 1 _ rfl; (with_reducible repeat (first | refine blk_drewN ?_ _ | refine blk_drew ?_ | refine blk_alloc ?_ _)); refine blk_put (cs := #[.slice none 0 0, .slice none 0 0, .slice none 0 0, .slice none 0 0]) ?_ 0 _ rfl; (with_reducible repeat (first | refine blk_drewN ?_ _ | refine blk_drew ?_ | refine blk_alloc ?_ _)); exact BK392.out⟩, ⟨by repeat (first | (with_reducible first | exact HB.out | apply below_alloc | apply pw_below_drewN | apply below_drew1 | refine below_set ?_ GE392.out) | exact HB.out)⟩⟩
       case rest =>
        clear HC46; (try clear c1); (try clear p1); (try clear q1); (try clear hx1); (try clear c2); (try clear p2); (try clear p3); (try clear q3); (try clear hx3); (try clear c5); (try clear c6); (try clear c6b0); (try clear c6b1); (try clear p6); (try clear c7); (try clear c7b0); (try clear c7b1); (try clear c11); (try clear c11b0); (try clear c12); (try clear c12b0); (try clear c13); (try clear c13b0); (try clear p14); (try clear q14); (try clear hx14); (try clear hf14); (try clear c16); (try clear c17); (try clear c17b0); (try clear c17b1); (try clear c21); (try clear c21b0); (try clear c22); (try clear c22b0); (try clear c23); (try clear c23b0); (try clear c24); (try clear c24b0); (try clear c25)
        (try clear c28); (try clear c28b0); (try clear c29); (try clear c29b0); (try clear c29b1); (try clear p37); (try clear q37); (try clear hx37); (try clear c55); (try clear c55b0); (try clear c55b1); (try clear hcz34_0); (try clear hcz34_1); (try clear hcz34_2); (try clear hcz34_3); (try clear hcz42_0); (try clear hcz42_1); (try clear hcz42_2); (try clear hcz42_3); (try clear hcz51_0); (try clear hcz51_1); (try clear hcz51_2); (try clear hcz51_3); (try clear hcz56_0); (try clear hcz56_1); (try clear hcz56_2); (try clear hcz56_3); (try clear hfz34_0); (try clear hfz34_1); (try clear hfz34_2); (try clear hfz34_3); (try clear hfz42_0); (try clear hfz42_1); (try clear hfz42_2); (try clear hfz42_3)
        (try clear hfz51_0); (try clear hfz51_1); (try clear hfz51_2); (try clear hfz51_3); (try clear hfz56_0); (try clear hfz56_1); (try clear hfz56_2); (try clear hfz56_3); (try clear hx14_0); (try clear hx375_0); (try clear p1); (try clear p14); (try clear p2); (try clear p3); (try clear p375); (try clear p6); (try clear q1); (try clear q14); (try clear q3); (try clear q375)
        obtain ⟨kq, x101_45, rfl, HA, HJ45, HO_11, HO_62, HO_393000, HO_393001, HO_393002, HO_393003, BK392, HB⟩ := hcut
        cases kq with
        | zero => exact absurd HA.out (by simp [letterbaglaw28_SequenceEqual.j3])
        | succ kj45 =>
         have H := HA.out; clear HA
         simp only [letterbaglaw28_SequenceEqual.j3] at H
         by_cases c57 : x101_45 = true
         ·subst c57
          have H1 : (some false) = some r := by rw [if_pos rfl] at H; exact H
          clear H; have H := H1; clear H1
          obtain rfl := Option.some.inj H
          go_wp2
          go_ret
          exact ⟨by first | rfl | (simp [errW_none, errW_some] <;> rfl) | (simp only [← hji5]; first | rfl | (simp [errW_none, errW_some] <;> rfl)) | (simp [*, errW_none, errW_some] <;> rfl), by repeat (first | (with_reducible first | exact HB.out | apply below_alloc | apply pw_below_drewN | apply below_drew1 | refine below_set ?_ GE392.out) | exact HB.out)⟩
         replace c57 := Bool.eq_false_iff.mpr c57
         subst c57
         have H1 : ((sequence_Check.f t379 t382 t385 t388).bind fun bt393 => (if bt393.2 = 0 then (letterbaglaw28_SequenceEqual.l1 kj45 ji5 (wrap64 (1 + (Int.tmod (wrap64 (a1)) 100))) x11_1 y371 (y371.length : Int) (wrap64 (x64_2 + 1))) else (some false))) = some r := by rw [if_neg (show ¬ (false = true) by decide)] at H; exact H
         clear H; have H := H1; clear H1
         replace H := Option.bind_eq_some_iff.mp H
         obtain ⟨⟨t393, t394⟩, A580, H⟩ := H
         replace H : (if t394 = 0 then (letterbaglaw28_SequenceEqual.l1 kj45 ji5 (wrap64 (1 + (Int.tmod (wrap64 (a1)) 100))) x11_1 y371 (y371.length : Int) (wrap64 (x64_2 + 1))) else (some false)) = some r := H
         have A58 := Aside0.mk A580
         clear A580
         by_cases c59 : t394 = 0
         rotate_left
         ·rw [if_neg c59] at H
          have c59b0 : (t394 == 0) = false := beq_eq_false_iff_ne.mpr c59
          have c59b1 : (t394 != 0) = true := bne_iff_ne.mpr c59
          obtain rfl := Option.some.inj H
          have hcz62_0 : wc.cell? ⟨gb392, 0, none⟩ = some (.slice Ao50 t379.length co50) := (blk_cell BK392.out 0).trans rfl
          have hcz62_1 : wc.cell? ⟨gb392, 1, none⟩ = some (.slice Ao52 t382.length co52) := (blk_cell BK392.out 1).trans rfl
          have hcz62_2 : wc.cell? ⟨gb392, 2, none⟩ = some (.slice Ao53 t385.length co53) := (blk_cell BK392.out 2).trans rfl
          have hcz62_3 : wc.cell? ⟨gb392, 3, none⟩ = some (.slice Ao54 t388.length co54) := (blk_cell BK392.out 3).trans rfl
          have hfz62_0 := blk_frozen BK392.out 0
          have hfz62_1 := blk_frozen BK392.out 1
          have hfz62_2 := blk_frozen BK392.out 2
          have hfz62_3 := blk_frozen BK392.out 3
          go_wp2_with (first | ((with_reducible refine gate_callee (f := 25) rfl ?_); refine goesL_ (some 104) rfl rfl Try.func25 (by kernel_rfl) rfl #[.agg #[.slice Ao50 t379.length co50, .slice Ao52 t382.length co52, .slice Ao53 t385.length co53, .slice Ao54 t388.length co54]] rfl (by (try simp only [List.map_toArray, List.map_cons, List.map_nil]); first | done | rfl | (simp only [List.length_drop, List.length_take]; rfl)) ?_; (with_reducible refine (sequence_Check.calls _ _ t379 _ _ t382 _ _ t385 _ _ t388 t393 t394 _ ?side1 ?side2 ?side3 ?side4 ?side5 ?side6 ?side7 ?side8 A58.out).mono ?_); (case side1 => repeat (first | exact (Kd.R_reads' HO_393000.out).2.2 | (with_reducible refine Kd.C_alloc ?_ _) | (with_reducible refine Kd.C_drewN ?_ _) | (with_reducible refine Kd.C_drew ?_))); (case side2 => exact (Kd.R_reads' HO_393000.out).2.1); (case side3 => repeat (first | exact (Kd.R_reads' HO_393001.out).2.2 | (with_reducible refine Kd.C_alloc ?_ _) | (with_reducible refine Kd.C_drewN ?_ _) | (with_reducible refine Kd.C_drew ?_))); (case side4 => exact (Kd.R_reads' HO_393001.out).2.1); (case side5 => repeat (first | exact (Kd.R_reads' HO_393002.out).2.2 | (with_reducible refine Kd.C_alloc ?_ _) | (with_reducible refine Kd.C_drewN ?_ _) | (with_reducible refine Kd.C_drew ?_))); (case side6 => exact (Kd.R_reads' HO_393002.out).2.1); (case side7 => repeat (first | exact (Kd.R_reads' HO_393003.out).2.2 | (with_reducible refine Kd.C_alloc ?_ _) | (with_reducible refine Kd.C_drewN ?_ _) | (with_reducible refine Kd.C_drew ?_))); (case side8 => exact (Kd.R_reads' HO_393003.out).2.1); rintro e w63 ⟨rfl, hb⟩; refine ⟨_, rfl, ?_⟩; have n0_ := Aside0.mk (Kd.R_below (by (with_reducible repeat (first | apply Kd.R_alloc | apply Kd.R_drewN | apply Kd.R_drew)); exact HO_11.out) hb); have n1_ := Aside0.mk (Kd.R_below (by (with_reducible repeat (first | apply Kd.R_alloc | apply Kd.R_drewN | apply Kd.R_drew)); exact HO_62.out) hb); have n2_ := Aside0.mk (Kd.R_below (by (with_reducible repeat (first | apply Kd.R_alloc | apply Kd.R_drewN | apply Kd.R_drew)); exact HO_393000.out) hb); have n3_ := Aside0.mk (Kd.R_below (by (with_reducible repeat (first | apply Kd.R_alloc | apply Kd.R_drewN | apply Kd.R_drew)); exact HO_393001.out) hb); have n4_ := Aside0.mk (Kd.R_below (by (with_reducible repeat (first | apply Kd.R_alloc | apply Kd.R_drewN | apply Kd.R_drew)); exact HO_393002.out) hb); have n5_ := Aside0.mk (Kd.R_below (by (with_reducible repeat (first | apply Kd.R_alloc | apply Kd.R_drewN | apply Kd.R_drew)); exact HO_393003.out) hb); have n6_ := Aside0.mk (blk_below (g := gb392) (o := .cells #[.slice Ao50 t379.length co50, .slice Ao52 t382.length co52, .slice Ao53 t385.length co53, .slice Ao54 t388.length co54] 38 (0, 0)) (by (with_reducible repeat (first | refine blk_drewN ?_ _ | refine blk_drew ?_ | refine blk_alloc ?_ _)); exact BK392.out) hb); have n7_ := Aside0.mk (below_step (by repeat (first | (with_reducible first | exact HB.out | apply below_alloc | apply pw_below_drewN | apply below_drew1 | refine below_set ?_ GE392.out) | exact HB.out)) hb); clear HO_11; clear HO_62; clear HO_393000; clear HO_393001; clear HO_393002; clear HO_393003; clear BK392; clear HB; have HO_11 := n0_; have HO_62 := n1_; have HO_393000 := n2_; have HO_393001 := n3_; have HO_393002 := n4_; have HO_393003 := n5_; have BK392 := n6_; have HB := n7_; clear n0_ n1_ n2_ n3_ n4_ n5_ n6_ n7_; (try clear hb); (try clear hb2); (try clear hk); (try clear hi)))
          go_ret
          exact ⟨by first | rfl | (simp [errW_none, errW_some] <;> rfl) | (simp only [← hji5]; first | rfl | (simp [errW_none, errW_some] <;> rfl)) | (simp [*, errW_none, errW_some] <;> rfl), by repeat (first | (with_reducible first | exact HB.out | apply below_alloc | apply pw_below_drewN | apply below_drew1 | refine below_set ?_ GE392.out) | exact HB.out)⟩
         rw [if_pos c59] at H
         have c59b0 : (t394 == 0) = true := beq_iff_eq.mpr c59
         have c59b1 : (t394 != 0) = false := bne_eq_false_iff_eq.mpr c59
         clear c59
         have H' := Aside0.mk H
         clear H
         have hcz60_0 : wc.cell? ⟨gb392, 0, none⟩ = some (.slice Ao50 t379.length co50) := (blk_cell BK392.out 0).trans rfl
         have hcz60_1 : wc.cell? ⟨gb392, 1, none⟩ = some (.slice Ao52 t382.length co52) := (blk_cell BK392.out 1).trans rfl
         have hcz60_2 : wc.cell? ⟨gb392, 2, none⟩ = some (.slice Ao53 t385.length co53) := (blk_cell BK392.out 2).trans rfl
         have hcz60_3 : wc.cell? ⟨gb392, 3, none⟩ = some (.slice Ao54 t388.length co54) := (blk_cell BK392.out 3).trans rfl
         have hfz60_0 := blk_frozen BK392.out 0
         have hfz60_1 := blk_frozen BK392.out 1
         have hfz60_2 := blk_frozen BK392.out 2
         have hfz60_3 := blk_frozen BK392.out 3
         go_wp2_with (first | ((with_reducible refine gate_callee (f := 25) rfl ?_); refine goesL_ (some 104) rfl rfl Try.func25 (by kernel_rfl) rfl #[.agg #[.slice Ao50 t379.length co50, .slice Ao52 t382.length co52, .slice Ao53 t385.length co53, .slice Ao54 t388.length co54]] rfl (by (try simp only [List.map_toArray, List.map_cons, List.map_nil]); first | done | rfl | (simp only [List.length_drop, List.length_take]; rfl)) ?_; (with_reducible refine (sequence_Check.calls _ _ t379 _ _ t382 _ _ t385 _ _ t388 t393 t394 _ ?side1 ?side2 ?side3 ?side4 ?side5 ?side6 ?side7 ?side8 A58.out).mono ?_); (case side1 => repeat (first | exact (Kd.R_reads' HO_393000.out).2.2 | (with_reducible refine Kd.C_alloc ?_ _) | (with_reducible refine Kd.C_drewN ?_ _) | (with_reducible refine Kd.C_drew ?_))); (case side2 => exact (Kd.R_reads' HO_393000.out).2.1); (case side3 => repeat (first | exact (Kd.R_reads' HO_393001.out).2.2 | (with_reducible refine Kd.C_alloc ?_ _) | (with_reducible refine Kd.C_drewN ?_ _) | (with_reducible refine Kd.C_drew ?_))); (case side4 => exact (Kd.R_reads' HO_393001.out).2.1); (case side5 => repeat (first | exact (Kd.R_reads' HO_393002.out).2.2 | (with_reducible refine Kd.C_alloc ?_ _) | (with_reducible refine Kd.C_drewN ?_ _) | (with_reducible refine Kd.C_drew ?_))); (case side6 => exact (Kd.R_reads' HO_393002.out).2.1); (case side7 => repeat (first | exact (Kd.R_reads' HO_393003.out).2.2 | (with_reducible refine Kd.C_alloc ?_ _) | (with_reducible refine Kd.C_drewN ?_ _) | (with_reducible refine Kd.C_drew ?_))); (case side8 => exact (Kd.R_reads' HO_393003.out).2.1); rintro e w61 ⟨rfl, hb⟩; refine ⟨_, rfl, ?_⟩; have n0_ := Aside0.mk (Kd.R_below (by (with_reducible repeat (first | apply Kd.R_alloc | apply Kd.R_drewN | apply Kd.R_drew)); exact HO_11.out) hb); have n1_ := Aside0.mk (Kd.R_below (by (with_reducible repeat (first | apply Kd.R_alloc | apply Kd.R_drewN | apply Kd.R_drew)); exact HO_62.out) hb); have n2_ := Aside0.mk (Kd.R_below (by (with_reducible repeat (first | apply Kd.R_alloc | apply Kd.R_drewN | apply Kd.R_drew)); exact HO_393000.out) hb); have n3_ := Aside0.mk (Kd.R_below (by (with_reducible repeat (first | apply Kd.R_alloc | apply Kd.R_drewN | apply Kd.R_drew)); exact HO_393001.out) hb); have n4_ := Aside0.mk (Kd.R_below (by (with_reducible repeat (first | apply Kd.R_alloc | apply Kd.R_drewN | apply Kd.R_drew)); exact HO_393002.out) hb); have n5_ := Aside0.mk (Kd.R_below (by (with_reducible repeat (first | apply Kd.R_alloc | apply Kd.R_drewN | apply Kd.R_drew)); exact HO_393003.out) hb); have n6_ := Aside0.mk (blk_below (g := gb392) (o := .cells #[.slice Ao50 t379.length co50, .slice Ao52 t382.length co52, .slice Ao53 t385.length co53, .slice Ao54 t388.length co54] 38 (0, 0)) (by (with_reducible repeat (first | refine blk_drewN ?_ _ | refine blk_drew ?_ | refine blk_alloc ?_ _)); exact BK392.out) hb); have n7_ := Aside0.mk (below_step (by repeat (first | (with_reducible first | exact HB.out | apply below_alloc | apply pw_below_drewN | apply below_drew1 | refine below_set ?_ GE392.out) | exact HB.out)) hb); clear HO_11; clear HO_62; clear HO_393000; clear HO_393001; clear HO_393002; clear HO_393003; clear BK392; clear HB; have HO_11 := n0_; have HO_62 := n1_; have HO_393000 := n2_; have HO_393001 := n3_; have HO_393002 := n4_; have HO_393003 := n5_; have BK392 := n6_; have HB := n7_; clear n0_ n1_ n2_ n3_ n4_ n5_ n6_ n7_; (try clear hb); (try clear hb2); (try clear hk); (try clear hi)))
         go_roundg kj45
         case measure => have := HK1.out; have := HK2.out; have := HK3.out; have := HJ45.out; omega
         case rel => exact ⟨(wrap64 (x64_2 + 1)), (by first | rfl | (simp; done) | (simp [*]; done)), H', ⟨by have := HK1.out; have := HK2.out; have := HK3.out; have := HJ45.out; omega⟩, ⟨by (try simp only [hl11_1]); (with_reducible repeat (first | apply Kd.R_alloc | apply Kd.R_drewN | apply Kd.R_drew)); exact Kd.R_mono HO_11.out (fun _ hk => hk.1)⟩, ⟨by (try simp only [hl11_1]); (with_reducible repeat (first | apply Kd.R_alloc | apply Kd.R_drewN | apply Kd.R_drew)); exact Kd.R_mono HO_62.out (fun _ hk => hk.1)⟩, ⟨by repeat (first | (with_reducible first | exact HB.out | apply below_alloc | apply pw_below_drewN | apply below_drew1 | refine below_set ?_ GE392.out) | exact HB.out)⟩⟩
/-- THE ONE PURE STATEMENT of letterbaglaw28_SequenceEqual: yours. -/
def letterbaglaw28_SequenceEqual.Pure : Prop := ∀ (a0 : Int) (a1 : Int) (a2 : Int) (a3 : Int), (Lit.int .u8 a0).wf = true → (Lit.int .u8 a1).wf = true → (Lit.int .u8 a2).wf = true → (Lit.int .u16 a3).wf = true → ∃ k, letterbaglaw28_SequenceEqual.f k a0 a1 a2 a3 = some true
theorem letterbaglaw28_SequenceEqual.walk (P : letterbaglaw28_SequenceEqual.Pure) (a0 : Int) (a1 : Int) (a2 : Int) (a3 : Int) (w : World) (w0 : (Lit.int .u8 a0).wf = true) (w1 : (Lit.int .u8 a1).wf = true) (w2 : (Lit.int .u8 a2).wf = true) (w3 : (Lit.int .u16 a3).wf = true) :
    Calls Try.prog 5 #[.int .u8 a0, .int .u8 a1, .int .u8 a2, .int .u16 a3] w fun e w' => e = .returned (.bool true) ∧ Below w.heap.size w w' := by
 obtain ⟨k, h⟩ := P a0 a1 a2 a3 w0 w1 w2 w3
 refine (letterbaglaw28_SequenceEqual.calls k a0 a1 a2 a3 true w h).mono ?_
 rintro e w' ⟨rfl, hd⟩
 exact ⟨rfl, hd⟩
end Go.Proofs.Ytbhcchcjmgfpiaa.Print
