/- SequenceExact's function, as the printer has it. -/
import Derived.Test.YtbhcchcjmgfpiaaPrint0
import Derived.Test.YtbhcchcjmgfpiaaPrint13
import Derived.Test.YtbhcchcjmgfpiaaPrint22
import Derived.Test.YtbhcchcjmgfpiaaPrint23
import Derived.Test.YtbhcchcjmgfpiaaPrint25
import Derived.Test.YtbhcchcjmgfpiaaGd3b
import Derived.Test.YtbhcchcjmgfpiaaGef
import Derived.Test.YtbhcchcjmgfpiaaGsp
import Derived.Test.YtbhcchcjmgfpiaaGwf
namespace Go.Proofs.Ytbhcchcjmgfpiaa.Print
open Go.RowKit Go.Proofs.YtbhcchcjmgfpiaaW.PrintWords Go.Proofs.YtbhcchcjmgfpiaaW.PrintLast Go.Proofs.YtbhcchcjmgfpiaaW.PrintMore
attribute [local go_sem] max2_int min2_int max_two min_two max_three min_three max_four min_four   -- for this text's walks alone
set_option linter.unusedVariables false
set_option linter.unusedSimpArgs false

/-! ### letterbaglaw28_SequenceExact: function 4 -/
mutual
def letterbaglaw28_SequenceExact.j0 : Nat → List Int → List (S27) → List Int → Bool → List Int → List (S60) → List Int → List Int → Option (Bool)
  | 0, _, _, _, _, _, _, _, _ => none
  | k + 1, x2, x7, x8, x70, x335000, x335001, x335002, x335003 => if x70 = true then (some false) else ((letterbaglaw28_feed.f x7 x2).bind fun t336 => ((sequence_Sort.f x335000 x335001 x335002 x335003 t336).bind fun bt339 => (if bt339.2.2.2 = 0 then (if (bt339.2.2.1.length : Int) = (t336.length : Int) then (if (bt339.1.length : Int) = (x8.length : Int) then (letterbaglaw28_SequenceExact.j1 k x7 x8 t336 ((bt339.2.1.length : Int) != (x8.length : Int)) x335000 x335001 x335002 x335003 bt339.1 bt339.2.1 bt339.2.2.1) else (letterbaglaw28_SequenceExact.j1 k x7 x8 t336 true x335000 x335001 x335002 x335003 bt339.1 bt339.2.1 bt339.2.2.1)) else (letterbaglaw28_SequenceExact.j1 k x7 x8 t336 true x335000 x335001 x335002 x335003 bt339.1 bt339.2.1 bt339.2.2.1)) else (letterbaglaw28_SequenceExact.j1 k x7 x8 t336 true x335000 x335001 x335002 x335003 bt339.1 bt339.2.1 bt339.2.2.1))))
def letterbaglaw28_SequenceExact.j1 : Nat → List (S27) → List Int → List Int → Bool → List Int → List (S60) → List Int → List Int → List (List Int) → List (List Int) → List Int → Option (Bool)
  | 0, _, _, _, _, _, _, _, _, _, _, _ => none
  | k + 1, x7, x8, x11, x105, x335000, x335001, x335002, x335003, x350000, x350001, x350002 => if x105 = true then (some false) else (letterbaglaw28_SequenceExact.l0 k x7 x8 x11 x350002 (x350002.length : Int) 0 x335000 x335001 x335002 x335003 x350000 x350001 x350002)
def letterbaglaw28_SequenceExact.l0 : Nat → List (S27) → List Int → List Int → List Int → Int → Int → List Int → List (S60) → List Int → List Int → List (List Int) → List (List Int) → List Int → Option (Bool)
  | 0, _, _, _, _, _, _, _, _, _, _, _, _, _ => none
  | k + 1, x7, x8, x11, x107, x108, x109, x335000, x335001, x335002, x335003, x350000, x350001, x350002 => if x109 < x108 then (if 0 ≤ x109 then (if x109 < (x107.length : Int) then (if (rd x107 x109) < 0 then (letterbaglaw28_SequenceExact.j3 k x7 x8 x11 x109 (rd x107 x109) x107 x108 x109 true x335000 x335001 x335002 x335003 x350000 x350001 x350002) else (letterbaglaw28_SequenceExact.j3 k x7 x8 x11 x109 (rd x107 x109) x107 x108 x109 (decide ((rd x107 x109) ≥ (x11.length : Int))) x335000 x335001 x335002 x335003 x350000 x350001 x350002)) else (none)) else (none)) else (letterbaglaw28_SequenceExact.l1 k x8 x11 0 0 (x8.length : Int) 0 x335000 x335001 x335002 x335003 x350000 x350001 x350002)
def letterbaglaw28_SequenceExact.j3 : Nat → List (S27) → List Int → List Int → Int → Int → List Int → Int → Int → Bool → List Int → List (S60) → List Int → List Int → List (List Int) → List (List Int) → List Int → Option (Bool)
  | 0, _, _, _, _, _, _, _, _, _, _, _, _, _, _, _, _ => none
  | k + 1, x7, x8, x11, x13, x14, x107, x108, x109, x121, x335000, x335001, x335002, x335003, x350000, x350001, x350002 => if x121 = true then (some false) else (if x13 = 0 then (letterbaglaw28_SequenceExact.l0 k x7 x8 x11 x107 x108 (wrap64 (x109 + 1)) x335000 x335001 x335002 x335003 x350000 x350001 x350002) else (if 0 ≤ (wrap64 (x13 - 1)) then (if (wrap64 (x13 - 1)) < (x350002.length : Int) then (if 0 ≤ (rd x350002 (wrap64 (x13 - 1))) then (if (rd x350002 (wrap64 (x13 - 1))) < (x11.length : Int) then ((letterbaglaw28_at.f k x7 (rd x11 (rd x350002 (wrap64 (x13 - 1))))).bind fun t353 => (if 0 ≤ x14 then (if x14 < (x11.length : Int) then ((letterbaglaw28_at.f k x7 (rd x11 x14)).bind fun t355 => (if t353 > t355 then (some false) else (if t353 = t355 then (if (rd x350002 (wrap64 (x13 - 1))) ≥ x14 then (some false) else (letterbaglaw28_SequenceExact.l0 k x7 x8 x11 x107 x108 (wrap64 (x109 + 1)) x335000 x335001 x335002 x335003 x350000 x350001 x350002)) else (letterbaglaw28_SequenceExact.l0 k x7 x8 x11 x107 x108 (wrap64 (x109 + 1)) x335000 x335001 x335002 x335003 x350000 x350001 x350002)))) else (none)) else (none))) else (none)) else (none)) else (none)) else (none)))
def letterbaglaw28_SequenceExact.l1 : Nat → List Int → List Int → Int → Int → Int → Int → List Int → List (S60) → List Int → List Int → List (List Int) → List (List Int) → List Int → Option (Bool)
  | 0, _, _, _, _, _, _, _, _, _, _, _, _, _ => none
  | k + 1, x8, x11, x17, x18, x161, x162, x335000, x335001, x335002, x335003, x350000, x350001, x350002 => if x162 < x161 then (if 0 ≤ x162 then (if x162 < (x350000.length : Int) then (if x162 < (x350001.length : Int) then (if x162 < (x335002.length : Int) then (if ((rd_L4 x350000 x162).length : Int) > (rd x335002 x162) then (some false) else (if x162 < (x335003.length : Int) then (if ((rd_L4 x350001 x162).length : Int) > (rd x335003 x162) then (some false) else (if x162 < (x8.length : Int) then (if (rd x335002 x162) > (rd x8 x162) then (some false) else (if (rd x335003 x162) > (rd x8 x162) then (some false) else (letterbaglaw28_SequenceExact.l1 k x8 x11 (wrap64 (x17 + ((rd_L4 x350000 x162).length : Int))) (wrap64 (x18 + ((rd_L4 x350001 x162).length : Int))) x161 (wrap64 (x162 + 1)) x335000 x335001 x335002 x335003 x350000 x350001 x350002))) else (none))) else (none))) else (none)) else (none)) else (none)) else (none)) else (if x17 = (x11.length : Int) then (some (x18 == (x11.length : Int))) else (some false))
end
def letterbaglaw28_SequenceExact.f (k : Nat) (l0 : List Int) (l1 : List Int) (l2 : List Int) : Option (Bool) := (letterbaglaw28_awake.f).bind fun t314 => (if t314 = true then ((letterbaglaw28_route.f k l0 9).bind fun t315 => ((letterbaglaw28_machine.f k l1).bind fun t318 => ((sequence_Make.f t315 t318).bind fun bt321 => (if bt321.2.2.2.2 = 0 then (if (bt321.2.1.length : Int) = (t315.length : Int) then (if (bt321.2.2.1.length : Int) = (t318.length : Int) then (if (bt321.2.2.2.1.length : Int) = (t318.length : Int) then ((letterbagkit_SameInts.f k bt321.1 t318).bind fun t335 => (letterbaglaw28_SequenceExact.j0 k l2 t315 t318 (!t335) bt321.1 bt321.2.1 bt321.2.2.1 bt321.2.2.2.1)) else (letterbaglaw28_SequenceExact.j0 k l2 t315 t318 true bt321.1 bt321.2.1 bt321.2.2.1 bt321.2.2.2.1)) else (letterbaglaw28_SequenceExact.j0 k l2 t315 t318 true bt321.1 bt321.2.1 bt321.2.2.1 bt321.2.2.2.1)) else (letterbaglaw28_SequenceExact.j0 k l2 t315 t318 true bt321.1 bt321.2.1 bt321.2.2.1 bt321.2.2.2.1)) else (if bt321.2.2.2.2 = 4 then (some ((bt321.2.1.length : Int) == 0)) else (some false)))))) else (some false))
theorem letterbaglaw28_SequenceExact.mono_l : ∀ k, (∀ y0 y1 y2 y3 y4 y5 y6 y7, LeO (letterbaglaw28_SequenceExact.j0 k y0 y1 y2 y3 y4 y5 y6 y7) (letterbaglaw28_SequenceExact.j0 (k + 1) y0 y1 y2 y3 y4 y5 y6 y7)) ∧ (∀ y0 y1 y2 y3 y4 y5 y6 y7 y8 y9 y10, LeO (letterbaglaw28_SequenceExact.j1 k y0 y1 y2 y3 y4 y5 y6 y7 y8 y9 y10) (letterbaglaw28_SequenceExact.j1 (k + 1) y0 y1 y2 y3 y4 y5 y6 y7 y8 y9 y10)) ∧ (∀ y0 y1 y2 y3 y4 y5 y6 y7 y8 y9 y10 y11 y12, LeO (letterbaglaw28_SequenceExact.l0 k y0 y1 y2 y3 y4 y5 y6 y7 y8 y9 y10 y11 y12) (letterbaglaw28_SequenceExact.l0 (k + 1) y0 y1 y2 y3 y4 y5 y6 y7 y8 y9 y10 y11 y12)) ∧ (∀ y0 y1 y2 y3 y4 y5 y6 y7 y8 y9 y10 y11 y12 y13 y14 y15, LeO (letterbaglaw28_SequenceExact.j3 k y0 y1 y2 y3 y4 y5 y6 y7 y8 y9 y10 y11 y12 y13 y14 y15) (letterbaglaw28_SequenceExact.j3 (k + 1) y0 y1 y2 y3 y4 y5 y6 y7 y8 y9 y10 y11 y12 y13 y14 y15)) ∧ (∀ y0 y1 y2 y3 y4 y5 y6 y7 y8 y9 y10 y11 y12, LeO (letterbaglaw28_SequenceExact.l1 k y0 y1 y2 y3 y4 y5 y6 y7 y8 y9 y10 y11 y12) (letterbaglaw28_SequenceExact.l1 (k + 1) y0 y1 y2 y3 y4 y5 y6 y7 y8 y9 y10 y11 y12))
  | 0 => ⟨fun _ _ _ _ _ _ _ _ r h => by simp [letterbaglaw28_SequenceExact.j0] at h, fun _ _ _ _ _ _ _ _ _ _ _ r h => by simp [letterbaglaw28_SequenceExact.j1] at h, fun _ _ _ _ _ _ _ _ _ _ _ _ _ r h => by simp [letterbaglaw28_SequenceExact.l0] at h, fun _ _ _ _ _ _ _ _ _ _ _ _ _ _ _ _ r h => by simp [letterbaglaw28_SequenceExact.j3] at h, fun _ _ _ _ _ _ _ _ _ _ _ _ _ r h => by simp [letterbaglaw28_SequenceExact.l1] at h⟩
  | k + 1 => by
    obtain ⟨ih0, ih1, ih2, ih3, ih4⟩ := letterbaglaw28_SequenceExact.mono_l k
    refine ⟨?_, ?_, ?_, ?_, ?_⟩
    · intro y0 y1 y2 y3 y4 y5 y6 y7
      unfold letterbaglaw28_SequenceExact.j0
      repeat' first
      | (with_reducible exact ih0 _ _ _ _ _ _ _ _)
      | (with_reducible exact ih1 _ _ _ _ _ _ _ _ _ _ _)
      | (with_reducible exact ih2 _ _ _ _ _ _ _ _ _ _ _ _ _)
      | (with_reducible exact ih3 _ _ _ _ _ _ _ _ _ _ _ _ _ _ _ _)
      | (with_reducible exact ih4 _ _ _ _ _ _ _ _ _ _ _ _ _)
      | (with_reducible exact letterbagkit_SameInts.mono _ _ _)
      | (with_reducible exact letterbaglaw28_at.mono _ _ _)
      | (with_reducible exact letterbaglaw28_machine.mono _ _)
      | (with_reducible exact letterbaglaw28_route.mono _ _ _)
      | (with_reducible exact LeO.refl _)
      | (with_reducible exact LeO.none _)
      | (with_reducible refine LeO.ite ?_ ?_)
      | (with_reducible refine LeO.bind ?_ (fun _ => ?_))
      | exact ih0 _ _ _ _ _ _ _ _
      | exact ih1 _ _ _ _ _ _ _ _ _ _ _
      | exact ih2 _ _ _ _ _ _ _ _ _ _ _ _ _
      | exact ih3 _ _ _ _ _ _ _ _ _ _ _ _ _ _ _ _
      | exact ih4 _ _ _ _ _ _ _ _ _ _ _ _ _
      | exact letterbagkit_SameInts.mono _ _ _
      | exact letterbaglaw28_at.mono _ _ _
      | exact letterbaglaw28_machine.mono _ _
      | exact letterbaglaw28_route.mono _ _ _
      | exact LeO.none _
      | refine LeO.ite ?_ ?_
      | refine LeO.bind ?_ (fun _ => ?_)
    · intro y0 y1 y2 y3 y4 y5 y6 y7 y8 y9 y10
      unfold letterbaglaw28_SequenceExact.j1
      repeat' first
      | (with_reducible exact ih0 _ _ _ _ _ _ _ _)
      | (with_reducible exact ih1 _ _ _ _ _ _ _ _ _ _ _)
      | (with_reducible exact ih2 _ _ _ _ _ _ _ _ _ _ _ _ _)
      | (with_reducible exact ih3 _ _ _ _ _ _ _ _ _ _ _ _ _ _ _ _)
      | (with_reducible exact ih4 _ _ _ _ _ _ _ _ _ _ _ _ _)
      | (with_reducible exact letterbagkit_SameInts.mono _ _ _)
      | (with_reducible exact letterbaglaw28_at.mono _ _ _)
      | (with_reducible exact letterbaglaw28_machine.mono _ _)
      | (with_reducible exact letterbaglaw28_route.mono _ _ _)
      | (with_reducible exact LeO.refl _)
      | (with_reducible exact LeO.none _)
      | (with_reducible refine LeO.ite ?_ ?_)
      | (with_reducible refine LeO.bind ?_ (fun _ => ?_))
      | exact ih0 _ _ _ _ _ _ _ _
      | exact ih1 _ _ _ _ _ _ _ _ _ _ _
      | exact ih2 _ _ _ _ _ _ _ _ _ _ _ _ _
      | exact ih3 _ _ _ _ _ _ _ _ _ _ _ _ _ _ _ _
      | exact ih4 _ _ _ _ _ _ _ _ _ _ _ _ _
      | exact letterbagkit_SameInts.mono _ _ _
      | exact letterbaglaw28_at.mono _ _ _
      | exact letterbaglaw28_machine.mono _ _
      | exact letterbaglaw28_route.mono _ _ _
      | exact LeO.none _
      | refine LeO.ite ?_ ?_
      | refine LeO.bind ?_ (fun _ => ?_)
    · intro y0 y1 y2 y3 y4 y5 y6 y7 y8 y9 y10 y11 y12
      unfold letterbaglaw28_SequenceExact.l0
      repeat' first
      | (with_reducible exact ih0 _ _ _ _ _ _ _ _)
      | (with_reducible exact ih1 _ _ _ _ _ _ _ _ _ _ _)
      | (with_reducible exact ih2 _ _ _ _ _ _ _ _ _ _ _ _ _)
      | (with_reducible exact ih3 _ _ _ _ _ _ _ _ _ _ _ _ _ _ _ _)
      | (with_reducible exact ih4 _ _ _ _ _ _ _ _ _ _ _ _ _)
      | (with_reducible exact letterbagkit_SameInts.mono _ _ _)
      | (with_reducible exact letterbaglaw28_at.mono _ _ _)
      | (with_reducible exact letterbaglaw28_machine.mono _ _)
      | (with_reducible exact letterbaglaw28_route.mono _ _ _)
      | (with_reducible exact LeO.refl _)
      | (with_reducible exact LeO.none _)
      | (with_reducible refine LeO.ite ?_ ?_)
      | (with_reducible refine LeO.bind ?_ (fun _ => ?_))
      | exact ih0 _ _ _ _ _ _ _ _
      | exact ih1 _ _ _ _ _ _ _ _ _ _ _
      | exact ih2 _ _ _ _ _ _ _ _ _ _ _ _ _
      | exact ih3 _ _ _ _ _ _ _ _ _ _ _ _ _ _ _ _
      | exact ih4 _ _ _ _ _ _ _ _ _ _ _ _ _
      | exact letterbagkit_SameInts.mono _ _ _
      | exact letterbaglaw28_at.mono _ _ _
      | exact letterbaglaw28_machine.mono _ _
      | exact letterbaglaw28_route.mono _ _ _
      | exact LeO.none _
      | refine LeO.ite ?_ ?_
      | refine LeO.bind ?_ (fun _ => ?_)
    · intro y0 y1 y2 y3 y4 y5 y6 y7 y8 y9 y10 y11 y12 y13 y14 y15
      unfold letterbaglaw28_SequenceExact.j3
      repeat' first
      | (with_reducible exact ih0 _ _ _ _ _ _ _ _)
      | (with_reducible exact ih1 _ _ _ _ _ _ _ _ _ _ _)
      | (with_reducible exact ih2 _ _ _ _ _ _ _ _ _ _ _ _ _)
      | (with_reducible exact ih3 _ _ _ _ _ _ _ _ _ _ _ _ _ _ _ _)
      | (with_reducible exact ih4 _ _ _ _ _ _ _ _ _ _ _ _ _)
      | (with_reducible exact letterbagkit_SameInts.mono _ _ _)
      | (with_reducible exact letterbaglaw28_at.mono _ _ _)
      | (with_reducible exact letterbaglaw28_machine.mono _ _)
      | (with_reducible exact letterbaglaw28_route.mono _ _ _)
      | (with_reducible exact LeO.refl _)
      | (with_reducible exact LeO.none _)
      | (with_reducible refine LeO.ite ?_ ?_)
      | (with_reducible refine LeO.bind ?_ (fun _ => ?_))
      | exact ih0 _ _ _ _ _ _ _ _
      | exact ih1 _ _ _ _ _ _ _ _ _ _ _
      | exact ih2 _ _ _ _ _ _ _ _ _ _ _ _ _
      | exact ih3 _ _ _ _ _ _ _ _ _ _ _ _ _ _ _ _
      | exact ih4 _ _ _ _ _ _ _ _ _ _ _ _ _
      | exact letterbagkit_SameInts.mono _ _ _
      | exact letterbaglaw28_at.mono _ _ _
      | exact letterbaglaw28_machine.mono _ _
      | exact letterbaglaw28_route.mono _ _ _
      | exact LeO.none _
      | refine LeO.ite ?_ ?_
      | refine LeO.bind ?_ (fun _ => ?_)
    · intro y0 y1 y2 y3 y4 y5 y6 y7 y8 y9 y10 y11 y12
      unfold letterbaglaw28_SequenceExact.l1
      repeat' first
      | (with_reducible exact ih0 _ _ _ _ _ _ _ _)
      | (with_reducible exact ih1 _ _ _ _ _ _ _ _ _ _ _)
      | (with_reducible exact ih2 _ _ _ _ _ _ _ _ _ _ _ _ _)
      | (with_reducible exact ih3 _ _ _ _ _ _ _ _ _ _ _ _ _ _ _ _)
      | (with_reducible exact ih4 _ _ _ _ _ _ _ _ _ _ _ _ _)
      | (with_reducible exact letterbagkit_SameInts.mono _ _ _)
      | (with_reducible exact letterbaglaw28_at.mono _ _ _)
      | (with_reducible exact letterbaglaw28_machine.mono _ _)
      | (with_reducible exact letterbaglaw28_route.mono _ _ _)
      | (with_reducible exact LeO.refl _)
      | (with_reducible exact LeO.none _)
      | (with_reducible refine LeO.ite ?_ ?_)
      | (with_reducible refine LeO.bind ?_ (fun _ => ?_))
      | exact ih0 _ _ _ _ _ _ _ _
      | exact ih1 _ _ _ _ _ _ _ _ _ _ _
      | exact ih2 _ _ _ _ _ _ _ _ _ _ _ _ _
      | exact ih3 _ _ _ _ _ _ _ _ _ _ _ _ _ _ _ _
      | exact ih4 _ _ _ _ _ _ _ _ _ _ _ _ _
      | exact letterbagkit_SameInts.mono _ _ _
      | exact letterbaglaw28_at.mono _ _ _
      | exact letterbaglaw28_machine.mono _ _
      | exact letterbaglaw28_route.mono _ _ _
      | exact LeO.none _
      | refine LeO.ite ?_ ?_
      | refine LeO.bind ?_ (fun _ => ?_)
theorem letterbaglaw28_SequenceExact.mono : ∀ a0 a1 a2 k, LeO (letterbaglaw28_SequenceExact.f k a0 a1 a2) (letterbaglaw28_SequenceExact.f (k + 1) a0 a1 a2) := by
  intro a0 a1 a2 k
  obtain ⟨ih0, ih1, ih2, ih3, ih4⟩ := letterbaglaw28_SequenceExact.mono_l k
  unfold letterbaglaw28_SequenceExact.f
  repeat' first
      | (with_reducible exact ih0 _ _ _ _ _ _ _ _)
      | (with_reducible exact ih1 _ _ _ _ _ _ _ _ _ _ _)
      | (with_reducible exact ih2 _ _ _ _ _ _ _ _ _ _ _ _ _)
      | (with_reducible exact ih3 _ _ _ _ _ _ _ _ _ _ _ _ _ _ _ _)
      | (with_reducible exact ih4 _ _ _ _ _ _ _ _ _ _ _ _ _)
      | (with_reducible exact letterbagkit_SameInts.mono _ _ _)
      | (with_reducible exact letterbaglaw28_at.mono _ _ _)
      | (with_reducible exact letterbaglaw28_machine.mono _ _)
      | (with_reducible exact letterbaglaw28_route.mono _ _ _)
      | (with_reducible exact LeO.refl _)
      | (with_reducible exact LeO.none _)
      | (with_reducible refine LeO.ite ?_ ?_)
      | (with_reducible refine LeO.bind ?_ (fun _ => ?_))
      | exact ih0 _ _ _ _ _ _ _ _
      | exact ih1 _ _ _ _ _ _ _ _ _ _ _
      | exact ih2 _ _ _ _ _ _ _ _ _ _ _ _ _
      | exact ih3 _ _ _ _ _ _ _ _ _ _ _ _ _ _ _ _
      | exact ih4 _ _ _ _ _ _ _ _ _ _ _ _ _
      | exact letterbagkit_SameInts.mono _ _ _
      | exact letterbaglaw28_at.mono _ _ _
      | exact letterbaglaw28_machine.mono _ _
      | exact letterbaglaw28_route.mono _ _ _
      | exact LeO.none _
      | refine LeO.ite ?_ ?_
      | refine LeO.bind ?_ (fun _ => ?_)
end Go.Proofs.Ytbhcchcjmgfpiaa.Print
