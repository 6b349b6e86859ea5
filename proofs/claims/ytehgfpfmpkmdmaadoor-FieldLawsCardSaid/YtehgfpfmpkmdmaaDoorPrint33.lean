-- Written by a program of this seat (the printer's forms over given functions); Lean checks it.
import Derived.Test.YtehgfpfmpkmdmaaDoorPrint0
import Derived.Test.YtehgfpfmpkmdmaaDoorPrint32
namespace Go.Proofs.YtehgfpfmpkmdmaaDoor.Print
open Go.RowKit Go.Proofs.YtehgfpfmpkmdmaaDoorW.PrintWords Go.Proofs.YtehgfpfmpkmdmaaDoorW.PrintLast Go.Proofs.YtehgfpfmpkmdmaaDoorW.PrintMore
attribute [local go_sem] max2_int min2_int max_two min_two max_three min_three max_four min_four   -- for this text's walks alone
set_option linter.unusedVariables false
set_option linter.unusedSimpArgs false

/-! ### letterbagref18_Log: function 36 -/
def letterbagref18_Log.l0 : Nat → Int → Int → Option (Int)
  | 0, _, _ => none
  | k + 1, x0, x3 => (letterbagref18_Pow.f k 2 x3).bind fun t366 => (if t366 = x0 then (some x3) else (letterbagref18_Log.l0 k x0 (wrap64 (x3 + 1))))
def letterbagref18_Log.f (k : Nat) (a0 : Int) : Option (Int) := letterbagref18_Log.l0 k a0 0
theorem letterbagref18_Log.mono_l : ∀ k, (∀ y0 y1, LeO (letterbagref18_Log.l0 k y0 y1) (letterbagref18_Log.l0 (k + 1) y0 y1))
  | 0 => fun _ _ r h => by simp [letterbagref18_Log.l0] at h
  | k + 1 => by
    have ih0 := letterbagref18_Log.mono_l k
    · intro y0 y1
      unfold letterbagref18_Log.l0
      repeat' first
      | (with_reducible exact ih0 _ _)
      | (with_reducible exact letterbagref18_Pow.mono _ _ _)
      | (with_reducible exact LeO.refl _)
      | (with_reducible exact LeO.none _)
      | (with_reducible refine LeO.ite ?_ ?_)
      | (with_reducible refine LeO.bind ?_ (fun _ => ?_))
      | exact ih0 _ _
      | exact letterbagref18_Pow.mono _ _ _
      | exact LeO.none _
      | refine LeO.ite ?_ ?_
      | refine LeO.bind ?_ (fun _ => ?_)
theorem letterbagref18_Log.mono : ∀ a0 k, LeO (letterbagref18_Log.f k a0) (letterbagref18_Log.f (k + 1) a0) := by
  intro a0 k
  have ih0 := letterbagref18_Log.mono_l k
  unfold letterbagref18_Log.f
  repeat' first
      | (with_reducible exact ih0 _ _)
      | (with_reducible exact letterbagref18_Pow.mono _ _ _)
      | (with_reducible exact LeO.refl _)
      | (with_reducible exact LeO.none _)
      | (with_reducible refine LeO.ite ?_ ?_)
      | (with_reducible refine LeO.bind ?_ (fun _ => ?_))
      | exact ih0 _ _
      | exact letterbagref18_Pow.mono _ _ _
      | exact LeO.none _
      | refine LeO.ite ?_ ?_
      | refine LeO.bind ?_ (fun _ => ?_)
set_option maxHeartbeats 8000000 in
set_option maxRecDepth 100000 in
theorem letterbagref18_Log.calls (k : Nat) (a0 : Int) (r : Int) (w : World) (h : letterbagref18_Log.f k a0 = some r) :
    Calls Tryd.prog 36 #[.int .u8 a0] w fun e w' => e = .returned (.int .i64 r) ∧ Drawn0 w w' := by
  have H : (letterbagref18_Log.l0 k a0 0) = some r := h
  clear h
  have H' := Aside0.mk H
  clear H
  go_enter Tryd.func36, Tryd.ntmps36
  go_wp2
  go_loopg [3] k (fun kq v3 w' => ∃ (x3_1 : Int), v3 = .int .i64 x3_1 ∧ Aside0 (letterbagref18_Log.l0 kq a0 x3_1 = some r) ∧ Aside0 (kq ≤ k) ∧ Drawn0 w w')
  case atStart => exact ⟨(0), (by first | rfl | (simp; done) | (simp [*]; done)), H', ⟨Nat.le_refl _⟩, by repeat (first | exact Drawn0.refl _ | apply Drawn0.step)⟩
  case round =>
    clear H'
    obtain ⟨x3_1, rfl, HA, HK1, ⟨m1, rfl⟩⟩ := hrel
    cases gk with
    | zero => exact absurd HA.out (by simp [letterbagref18_Log.l0])
    | succ k1 =>
      have H := HA.out
      clear HA
      simp only [letterbagref18_Log.l0] at H
      replace H := Option.bind_eq_some_iff.mp H
      obtain ⟨t366, A20, H⟩ := H
      replace H : (if t366 = a0 then (some x3_1) else (letterbagref18_Log.l0 k1 a0 (wrap64 (x3_1 + 1)))) = some r := H
      have A2 := Aside0.mk A20
      clear A20
      by_cases c3 : t366 = a0
      · rw [if_pos c3] at H
        have c3b0 : (t366 == a0) = true := beq_iff_eq.mpr c3
        have c3b1 : (t366 != a0) = false := bne_eq_false_iff_eq.mpr c3
        clear c3
        obtain rfl := Option.some.inj H
        go_wp2_with (first | ((with_reducible refine gate_callee (f := 37) rfl ?_); refine goesL_ (some 5) rfl rfl Tryd.func37 (by kernel_rfl) rfl #[.int .u8 2, .int .i64 x3_1] rfl (by (try simp only [List.map_toArray, List.map_cons, List.map_nil]); first | done | rfl | (simp only [List.length_drop, List.length_take]; rfl)) ?_; (with_reducible refine (letterbagref18_Pow.calls k1 2 x3_1 t366 _ A2.out).mono ?_); rintro e w' ⟨rfl, ⟨nd, rfl⟩⟩; refine ⟨_, rfl, ?_⟩))
        go_ret
        exact ⟨by first | rfl | (simp; done) | (simp [*]; done), by repeat (first | exact Drawn0.refl _ | apply Drawn0.step)⟩
      · rw [if_neg c3] at H
        have c3b0 : (t366 == a0) = false := beq_eq_false_iff_ne.mpr c3
        have c3b1 : (t366 != a0) = true := bne_iff_ne.mpr c3
        have H' := Aside0.mk H
        clear H
        go_wp2_with (first | ((with_reducible refine gate_callee (f := 37) rfl ?_); refine goesL_ (some 5) rfl rfl Tryd.func37 (by kernel_rfl) rfl #[.int .u8 2, .int .i64 x3_1] rfl (by (try simp only [List.map_toArray, List.map_cons, List.map_nil]); first | done | rfl | (simp only [List.length_drop, List.length_take]; rfl)) ?_; (with_reducible refine (letterbagref18_Pow.calls k1 2 x3_1 t366 _ A2.out).mono ?_); rintro e w' ⟨rfl, ⟨nd, rfl⟩⟩; refine ⟨_, rfl, ?_⟩))
        go_roundg k1
        case measure => have := HK1.out; omega
        case rel => exact ⟨(wrap64 (x3_1 + 1)), (by first | rfl | (simp; done) | (simp [*]; done)), H', ⟨by have := HK1.out; omega⟩, by repeat (first | exact Drawn0.refl _ | apply Drawn0.step)⟩

end Go.Proofs.YtehgfpfmpkmdmaaDoor.Print
