/- SequenceParts's function, as the printer has it. -/
import Derived.Test.YtbhcchcjmgfpiaaPrint0
import Derived.Test.YtbhcchcjmgfpiaaPrint13
import Derived.Test.YtbhcchcjmgfpiaaPrint22
import Derived.Test.YtbhcchcjmgfpiaaPrint23
import Derived.Test.YtbhcchcjmgfpiaaPrint25
import Derived.Test.YtbhcchcjmgfpiaaGd3b
import Derived.Test.YtbhcchcjmgfpiaaGef
import Derived.Test.YtbhcchcjmgfpiaaGsp
import Derived.Test.YtbhcchcjmgfpiaaGwf
namespace Go.Proofs.Ytbhcchcjmgfpiaa.Print
open Go.RowKit Go.Proofs.YtbhcchcjmgfpiaaW.PrintWords Go.Proofs.YtbhcchcjmgfpiaaW.PrintLast Go.Proofs.YtbhcchcjmgfpiaaW.PrintMore
attribute [local go_sem] max2_int min2_int max_two min_two max_three min_three max_four min_four   -- for this text's walks alone
set_option linter.unusedVariables false
set_option linter.unusedSimpArgs false

/-! ### letterbaglaw28_SequenceParts: function 7 -/
mutual
def letterbaglaw28_SequenceParts.j0 : Nat → Int → List (S27) → List Int → Bool → List Int → List (S60) → List Int → List Int → List (List Int) → List (List Int) → List Int → Option (Bool)
  | 0, _, _, _, _, _, _, _, _, _, _, _ => none
  | k + 1, x3, x9, x13, x60, x482000, x482001, x482002, x482003, x497000, x497001, x497002 => if x60 = true then (some false) else (letterbaglaw28_SequenceParts.l0 k x3 x9 x13 ([] : List Int) x13 (x13.length : Int) 0 x482000 x482001 x482002 x482003 x497000 x497001 x497002)
def letterbaglaw28_SequenceParts.l0 : Nat → Int → List (S27) → List Int → List Int → List Int → Int → Int → List Int → List (S60) → List Int → List Int → List (List Int) → List (List Int) → List Int → Option (Bool)
  | 0, _, _, _, _, _, _, _, _, _, _, _, _, _, _ => none
  | k + 1, x3, x9, x13, x15, x61, x62, x63, x482000, x482001, x482002, x482003, x497000, x497001, x497002 => if x63 < x62 then (if 0 ≤ x63 then (if x63 < (x61.length : Int) then ((letterbaglaw28_at.f k x9 (rd x61 x63)).bind fun t498 => (if 0 ≤ (Int.tmod t498 16) then (if (Go.bits .and .u16 (shr .u16 x3 (Int.tmod t498 16)) 1) = 1 then (if x15.length < 17592186044416 then (letterbaglaw28_SequenceParts.l0 k x3 x9 x13 (x15 ++ [rd x61 x63]) x61 x62 (wrap64 (x63 + 1)) x482000 x482001 x482002 x482003 x497000 x497001 x497002) else (none)) else (letterbaglaw28_SequenceParts.l0 k x3 x9 x13 x15 x61 x62 (wrap64 (x63 + 1)) x482000 x482001 x482002 x482003 x497000 x497001 x497002)) else (none))) else (none)) else (none)) else (letterbaglaw28_SequenceParts.l1 k x3 x9 x13 x15 ([] : List Int) x497002 (x497002.length : Int) 0 x482000 x482001 x482002 x482003)
def letterbaglaw28_SequenceParts.l1 : Nat → Int → List (S27) → List Int → List Int → List Int → List Int → Int → Int → List Int → List (S60) → List Int → List Int → Option (Bool)
  | 0, _, _, _, _, _, _, _, _, _, _, _, _ => none
  | k + 1, x3, x9, x13, x15, x16, x81, x82, x83, x482000, x482001, x482002, x482003 => if x83 < x82 then (if 0 ≤ x83 then (if x83 < (x81.length : Int) then (if (rd x81 x83) < 0 then (letterbaglaw28_SequenceParts.j3 k x3 x9 x13 x15 x16 (rd x81 x83) x81 x82 x83 true x482000 x482001 x482002 x482003) else (letterbaglaw28_SequenceParts.j3 k x3 x9 x13 x15 x16 (rd x81 x83) x81 x82 x83 (decide ((rd x81 x83) ≥ (x13.length : Int))) x482000 x482001 x482002 x482003)) else (none)) else (none)) else ((sequence_Sort.f x482000 x482001 x482002 x482003 x15).bind fun bt509 => (if bt509.2.2.2 = 0 then (letterbaglaw28_SequenceParts.l2 k x15 x16 ([] : List Int) bt509.2.2.1 (bt509.2.2.1.length : Int) 0) else (some false)))
def letterbaglaw28_SequenceParts.j3 : Nat → Int → List (S27) → List Int → List Int → List Int → Int → List Int → Int → Int → Bool → List Int → List (S60) → List Int → List Int → Option (Bool)
  | 0, _, _, _, _, _, _, _, _, _, _, _, _, _, _ => none
  | k + 1, x3, x9, x13, x15, x16, x21, x81, x82, x83, x94, x482000, x482001, x482002, x482003 => if x94 = true then (some false) else (if 0 ≤ x21 then (if x21 < (x13.length : Int) then ((letterbaglaw28_at.f k x9 (rd x13 x21)).bind fun t504 => (if 0 ≤ (Int.tmod t504 16) then (if (Go.bits .and .u16 (shr .u16 x3 (Int.tmod t504 16)) 1) = 1 then (if x16.length < 17592186044416 then (letterbaglaw28_SequenceParts.l1 k x3 x9 x13 x15 (x16 ++ [rd x13 x21]) x81 x82 (wrap64 (x83 + 1)) x482000 x482001 x482002 x482003) else (none)) else (letterbaglaw28_SequenceParts.l1 k x3 x9 x13 x15 x16 x81 x82 (wrap64 (x83 + 1)) x482000 x482001 x482002 x482003)) else (none))) else (none)) else (none))
def letterbaglaw28_SequenceParts.l2 : Nat → List Int → List Int → List Int → List Int → Int → Int → Option (Bool)
  | 0, _, _, _, _, _, _ => none
  | k + 1, x15, x16, x17, x123, x124, x125 => if x125 < x124 then (if 0 ≤ x125 then (if x125 < (x123.length : Int) then (if (rd x123 x125) < 0 then (some false) else (if (rd x123 x125) ≥ (x15.length : Int) then (some false) else (if 0 ≤ (rd x123 x125) then (if (rd x123 x125) < (x15.length : Int) then (if x17.length < 17592186044416 then (letterbaglaw28_SequenceParts.l2 k x15 x16 (x17 ++ [rd x15 (rd x123 x125)]) x123 x124 (wrap64 (x125 + 1))) else (none)) else (none)) else (none)))) else (none)) else (none)) else ((letterbagkit_SameInts.f k x17 x16).bind fun t525 => (if t525 = true then ((letterbaglaw28_awake.f).bind fun t526 => (some t526)) else (some false)))
end
def letterbaglaw28_SequenceParts.f (k : Nat) (l0 : List Int) (l1 : List Int) (l2 : List Int) (a3 : Int) : Option (Bool) := (letterbaglaw28_route.f k l0 9).bind fun t462 => ((letterbaglaw28_machine.f k l1).bind fun t465 => ((sequence_Make.f t462 t465).bind fun bt468 => (if bt468.2.2.2.2 = 0 then ((letterbaglaw28_feed.f t462 l2).bind fun t483 => ((sequence_Sort.f bt468.1 bt468.2.1 bt468.2.2.1 bt468.2.2.2.1 t483).bind fun bt486 => (if bt486.2.2.2 = 0 then (letterbaglaw28_SequenceParts.j0 k a3 t462 t483 ((bt486.2.2.1.length : Int) != (t483.length : Int)) bt468.1 bt468.2.1 bt468.2.2.1 bt468.2.2.2.1 bt486.1 bt486.2.1 bt486.2.2.1) else (letterbaglaw28_SequenceParts.j0 k a3 t462 t483 true bt468.1 bt468.2.1 bt468.2.2.1 bt468.2.2.2.1 bt486.1 bt486.2.1 bt486.2.2.1)))) else (if bt468.2.2.2.2 = 4 then ((letterbaglaw28_awake.f).bind fun t482 => (some t482)) else (some false)))))
theorem letterbaglaw28_SequenceParts.mono_l : ∀ k, (∀ y0 y1 y2 y3 y4 y5 y6 y7 y8 y9 y10, LeO (letterbaglaw28_SequenceParts.j0 k y0 y1 y2 y3 y4 y5 y6 y7 y8 y9 y10) (letterbaglaw28_SequenceParts.j0 (k + 1) y0 y1 y2 y3 y4 y5 y6 y7 y8 y9 y10)) ∧ (∀ y0 y1 y2 y3 y4 y5 y6 y7 y8 y9 y10 y11 y12 y13, LeO (letterbaglaw28_SequenceParts.l0 k y0 y1 y2 y3 y4 y5 y6 y7 y8 y9 y10 y11 y12 y13) (letterbaglaw28_SequenceParts.l0 (k + 1) y0 y1 y2 y3 y4 y5 y6 y7 y8 y9 y10 y11 y12 y13)) ∧ (∀ y0 y1 y2 y3 y4 y5 y6 y7 y8 y9 y10 y11, LeO (letterbaglaw28_SequenceParts.l1 k y0 y1 y2 y3 y4 y5 y6 y7 y8 y9 y10 y11) (letterbaglaw28_SequenceParts.l1 (k + 1) y0 y1 y2 y3 y4 y5 y6 y7 y8 y9 y10 y11)) ∧ (∀ y0 y1 y2 y3 y4 y5 y6 y7 y8 y9 y10 y11 y12 y13, LeO (letterbaglaw28_SequenceParts.j3 k y0 y1 y2 y3 y4 y5 y6 y7 y8 y9 y10 y11 y12 y13) (letterbaglaw28_SequenceParts.j3 (k + 1) y0 y1 y2 y3 y4 y5 y6 y7 y8 y9 y10 y11 y12 y13)) ∧ (∀ y0 y1 y2 y3 y4 y5, LeO (letterbaglaw28_SequenceParts.l2 k y0 y1 y2 y3 y4 y5) (letterbaglaw28_SequenceParts.l2 (k + 1) y0 y1 y2 y3 y4 y5))
  | 0 => ⟨fun _ _ _ _ _ _ _ _ _ _ _ r h => by simp [letterbaglaw28_SequenceParts.j0] at h, fun _ _ _ _ _ _ _ _ _ _ _ _ _ _ r h => by simp [letterbaglaw28_SequenceParts.l0] at h, fun _ _ _ _ _ _ _ _ _ _ _ _ r h => by simp [letterbaglaw28_SequenceParts.l1] at h, fun _ _ _ _ _ _ _ _ _ _ _ _ _ _ r h => by simp [letterbaglaw28_SequenceParts.j3] at h, fun _ _ _ _ _ _ r h => by simp [letterbaglaw28_SequenceParts.l2] at h⟩
  | k + 1 => by
    obtain ⟨ih0, ih1, ih2, ih3, ih4⟩ := letterbaglaw28_SequenceParts.mono_l k
    refine ⟨?_, ?_, ?_, ?_, ?_⟩
    · intro y0 y1 y2 y3 y4 y5 y6 y7 y8 y9 y10
      unfold letterbaglaw28_SequenceParts.j0
      repeat' first
      | (with_reducible exact ih0 _ _ _ _ _ _ _ _ _ _ _)
      | (with_reducible exact ih1 _ _ _ _ _ _ _ _ _ _ _ _ _ _)
      | (with_reducible exact ih2 _ _ _ _ _ _ _ _ _ _ _ _)
      | (with_reducible exact ih3 _ _ _ _ _ _ _ _ _ _ _ _ _ _)
      | (with_reducible exact ih4 _ _ _ _ _ _)
      | (with_reducible exact letterbagkit_SameInts.mono _ _ _)
      | (with_reducible exact letterbaglaw28_at.mono _ _ _)
      | (with_reducible exact letterbaglaw28_machine.mono _ _)
      | (with_reducible exact letterbaglaw28_route.mono _ _ _)
      | (with_reducible exact LeO.refl _)
      | (with_reducible exact LeO.none _)
      | (with_reducible refine LeO.ite ?_ ?_)
      | (with_reducible refine LeO.bind ?_ (fun _ => ?_))
      | exact ih0 _ _ _ _ _ _ _ _ _ _ _
      | exact ih1 _ _ _ _ _ _ _ _ _ _ _ _ _ _
      | exact ih2 _ _ _ _ _ _ _ _ _ _ _ _
      | exact ih3 _ _ _ _ _ _ _ _ _ _ _ _ _ _
      | exact ih4 _ _ _ _ _ _
      | exact letterbagkit_SameInts.mono _ _ _
      | exact letterbaglaw28_at.mono _ _ _
      | exact letterbaglaw28_machine.mono _ _
      | exact letterbaglaw28_route.mono _ _ _
      | exact LeO.none _
      | refine LeO.ite ?_ ?_
      | refine LeO.bind ?_ (fun _ => ?_)
    · intro y0 y1 y2 y3 y4 y5 y6 y7 y8 y9 y10 y11 y12 y13
      unfold letterbaglaw28_SequenceParts.l0
      repeat' first
      | (with_reducible exact ih0 _ _ _ _ _ _ _ _ _ _ _)
      | (with_reducible exact ih1 _ _ _ _ _ _ _ _ _ _ _ _ _ _)
      | (with_reducible exact ih2 _ _ _ _ _ _ _ _ _ _ _ _)
      | (with_reducible exact ih3 _ _ _ _ _ _ _ _ _ _ _ _ _ _)
      | (with_reducible exact ih4 _ _ _ _ _ _)
      | (with_reducible exact letterbagkit_SameInts.mono _ _ _)
      | (with_reducible exact letterbaglaw28_at.mono _ _ _)
      | (with_reducible exact letterbaglaw28_machine.mono _ _)
      | (with_reducible exact letterbaglaw28_route.mono _ _ _)
      | (with_reducible exact LeO.refl _)
      | (with_reducible exact LeO.none _)
      | (with_reducible refine LeO.ite ?_ ?_)
      | (with_reducible refine LeO.bind ?_ (fun _ => ?_))
      | exact ih0 _ _ _ _ _ _ _ _ _ _ _
      | exact ih1 _ _ _ _ _ _ _ _ _ _ _ _ _ _
      | exact ih2 _ _ _ _ _ _ _ _ _ _ _ _
      | exact ih3 _ _ _ _ _ _ _ _ _ _ _ _ _ _
      | exact ih4 _ _ _ _ _ _
      | exact letterbagkit_SameInts.mono _ _ _
      | exact letterbaglaw28_at.mono _ _ _
      | exact letterbaglaw28_machine.mono _ _
      | exact letterbaglaw28_route.mono _ _ _
      | exact LeO.none _
      | refine LeO.ite ?_ ?_
      | refine LeO.bind ?_ (fun _ => ?_)
    · intro y0 y1 y2 y3 y4 y5 y6 y7 y8 y9 y10 y11
      unfold letterbaglaw28_SequenceParts.l1
      repeat' first
      | (with_reducible exact ih0 _ _ _ _ _ _ _ _ _ _ _)
      | (with_reducible exact ih1 _ _ _ _ _ _ _ _ _ _ _ _ _ _)
      | (with_reducible exact ih2 _ _ _ _ _ _ _ _ _ _ _ _)
      | (with_reducible exact ih3 _ _ _ _ _ _ _ _ _ _ _ _ _ _)
      | (with_reducible exact ih4 _ _ _ _ _ _)
      | (with_reducible exact letterbagkit_SameInts.mono _ _ _)
      | (with_reducible exact letterbaglaw28_at.mono _ _ _)
      | (with_reducible exact letterbaglaw28_machine.mono _ _)
      | (with_reducible exact letterbaglaw28_route.mono _ _ _)
      | (with_reducible exact LeO.refl _)
      | (with_reducible exact LeO.none _)
      | (with_reducible refine LeO.ite ?_ ?_)
      | (with_reducible refine LeO.bind ?_ (fun _ => ?_))
      | exact ih0 _ _ _ _ _ _ _ _ _ _ _
      | exact ih1 _ _ _ _ _ _ _ _ _ _ _ _ _ _
      | exact ih2 _ _ _ _ _ _ _ _ _ _ _ _
      | exact ih3 _ _ _ _ _ _ _ _ _ _ _ _ _ _
      | exact ih4 _ _ _ _ _ _
      | exact letterbagkit_SameInts.mono _ _ _
      | exact letterbaglaw28_at.mono _ _ _
      | exact letterbaglaw28_machine.mono _ _
      | exact letterbaglaw28_route.mono _ _ _
      | exact LeO.none _
      | refine LeO.ite ?_ ?_
      | refine LeO.bind ?_ (fun _ => ?_)
    · intro y0 y1 y2 y3 y4 y5 y6 y7 y8 y9 y10 y11 y12 y13
      unfold letterbaglaw28_SequenceParts.j3
      repeat' first
      | (with_reducible exact ih0 _ _ _ _ _ _ _ _ _ _ _)
      | (with_reducible exact ih1 _ _ _ _ _ _ _ _ _ _ _ _ _ _)
      | (with_reducible exact ih2 _ _ _ _ _ _ _ _ _ _ _ _)
      | (with_reducible exact ih3 _ _ _ _ _ _ _ _ _ _ _ _ _ _)
      | (with_reducible exact ih4 _ _ _ _ _ _)
      | (with_reducible exact letterbagkit_SameInts.mono _ _ _)
      | (with_reducible exact letterbaglaw28_at.mono _ _ _)
      | (with_reducible exact letterbaglaw28_machine.mono _ _)
      | (with_reducible exact letterbaglaw28_route.mono _ _ _)
      | (with_reducible exact LeO.refl _)
      | (with_reducible exact LeO.none _)
      | (with_reducible refine LeO.ite ?_ ?_)
      | (with_reducible refine LeO.bind ?_ (fun _ => ?_))
      | exact ih0 _ _ _ _ _ _ _ _ _ _ _
      | exact ih1 _ _ _ _ _ _ _ _ _ _ _ _ _ _
      | exact ih2 _ _ _ _ _ _ _ _ _ _ _ _
      | exact ih3 _ _ _ _ _ _ _ _ _ _ _ _ _ _
      | exact ih4 _ _ _ _ _ _
      | exact letterbagkit_SameInts.mono _ _ _
      | exact letterbaglaw28_at.mono _ _ _
      | exact letterbaglaw28_machine.mono _ _
      | exact letterbaglaw28_route.mono _ _ _
      | exact LeO.none _
      | refine LeO.ite ?_ ?_
      | refine LeO.bind ?_ (fun _ => ?_)
    · intro y0 y1 y2 y3 y4 y5
      unfold letterbaglaw28_SequenceParts.l2
      repeat' first
      | (with_reducible exact ih0 _ _ _ _ _ _ _ _ _ _ _)
      | (with_reducible exact ih1 _ _ _ _ _ _ _ _ _ _ _ _ _ _)
      | (with_reducible exact ih2 _ _ _ _ _ _ _ _ _ _ _ _)
      | (with_reducible exact ih3 _ _ _ _ _ _ _ _ _ _ _ _ _ _)
      | (with_reducible exact ih4 _ _ _ _ _ _)
      | (with_reducible exact letterbagkit_SameInts.mono _ _ _)
      | (with_reducible exact letterbaglaw28_at.mono _ _ _)
      | (with_reducible exact letterbaglaw28_machine.mono _ _)
      | (with_reducible exact letterbaglaw28_route.mono _ _ _)
      | (with_reducible exact LeO.refl _)
      | (with_reducible exact LeO.none _)
      | (with_reducible refine LeO.ite ?_ ?_)
      | (with_reducible refine LeO.bind ?_ (fun _ => ?_))
      | exact ih0 _ _ _ _ _ _ _ _ _ _ _
      | exact ih1 _ _ _ _ _ _ _ _ _ _ _ _ _ _
      | exact ih2 _ _ _ _ _ _ _ _ _ _ _ _
      | exact ih3 _ _ _ _ _ _ _ _ _ _ _ _ _ _
      | exact ih4 _ _ _ _ _ _
      | exact letterbagkit_SameInts.mono _ _ _
      | exact letterbaglaw28_at.mono _ _ _
      | exact letterbaglaw28_machine.mono _ _
      | exact letterbaglaw28_route.mono _ _ _
      | exact LeO.none _
      | refine LeO.ite ?_ ?_
      | refine LeO.bind ?_ (fun _ => ?_)
theorem letterbaglaw28_SequenceParts.mono : ∀ a0 a1 a2 a3 k, LeO (letterbaglaw28_SequenceParts.f k a0 a1 a2 a3) (letterbaglaw28_SequenceParts.f (k + 1) a0 a1 a2 a3) := by
  intro a0 a1 a2 a3 k
  obtain ⟨ih0, ih1, ih2, ih3, ih4⟩ := letterbaglaw28_SequenceParts.mono_l k
  unfold letterbaglaw28_SequenceParts.f
  repeat' first
      | (with_reducible exact ih0 _ _ _ _ _ _ _ _ _ _ _)
      | (with_reducible exact ih1 _ _ _ _ _ _ _ _ _ _ _ _ _ _)
      | (with_reducible exact ih2 _ _ _ _ _ _ _ _ _ _ _ _)
      | (with_reducible exact ih3 _ _ _ _ _ _ _ _ _ _ _ _ _ _)
      | (with_reducible exact ih4 _ _ _ _ _ _)
      | (with_reducible exact letterbagkit_SameInts.mono _ _ _)
      | (with_reducible exact letterbaglaw28_at.mono _ _ _)
      | (with_reducible exact letterbaglaw28_machine.mono _ _)
      | (with_reducible exact letterbaglaw28_route.mono _ _ _)
      | (with_reducible exact LeO.refl _)
      | (with_reducible exact LeO.none _)
      | (with_reducible refine LeO.ite ?_ ?_)
      | (with_reducible refine LeO.bind ?_ (fun _ => ?_))
      | exact ih0 _ _ _ _ _ _ _ _ _ _ _
      | exact ih1 _ _ _ _ _ _ _ _ _ _ _ _ _ _
      | exact ih2 _ _ _ _ _ _ _ _ _ _ _ _
      | exact ih3 _ _ _ _ _ _ _ _ _ _ _ _ _ _
      | exact ih4 _ _ _ _ _ _
      | exact letterbagkit_SameInts.mono _ _ _
      | exact letterbaglaw28_at.mono _ _ _
      | exact letterbaglaw28_machine.mono _ _
      | exact letterbaglaw28_route.mono _ _ _
      | exact LeO.none _
      | refine LeO.ite ?_ ?_
      | refine LeO.bind ?_ (fun _ => ?_)
end Go.Proofs.Ytbhcchcjmgfpiaa.Print
