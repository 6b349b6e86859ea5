-- Written by a program of this seat (the printer's forms over given functions); Lean checks it.
import Derived.Test.YtbhcchcjmgfpiaaPrint0
import Derived.Test.YtbhcchcjmgfpiaaGa
import Derived.Test.YtbhcchcjmgfpiaaGb
namespace Go.Proofs.Ytbhcchcjmgfpiaa.Print
open Go.RowKit Go.Proofs.YtbhcchcjmgfpiaaW.PrintWords Go.Proofs.YtbhcchcjmgfpiaaW.PrintLast Go.Proofs.YtbhcchcjmgfpiaaW.PrintMore
attribute [local go_sem] max2_int min2_int max_two min_two max_three min_three max_four min_four   -- for this text's walks alone
set_option linter.unusedVariables false
set_option linter.unusedSimpArgs false

/-! ### sequence_Check: function 25 -/
mutual
def sequence_CheckK.l0 : Nat → List (S27) → List (S60) → Int → Int → List Int → List (S60) → List Int → List Int → Option (Int × Int)
  | 0, _, _, _, _, _, _, _, _ => none
  | k + 1, x4, x24, x25, x26, x182000, x182001, x182002, x182003 => if x26 < x25 then (if 0 ≤ x26 then (if x26 < (x24.length : Int) then (if x4.length < 8796093022208 then (sequence_CheckK.l0 k (x4 ++ [(⟨(rd_T60 x24 x26).f0, (rd_T60 x24 x26).f1⟩ : S27)]) x24 x25 (wrap64 (x26 + 1)) x182000 x182001 x182002 x182003) else (none)) else (none)) else (none)) else ((sequence_wrong.f x4).bind fun t188 => (if t188 ≥ 0 then (some (t188, 281)) else (if 0 ≤ (x182000.length : Int) then (if ((x182000.length : Int) : Int).toNat ≤ 35184372088832 then (sequence_CheckK.l1 k (List.replicate ((x182000.length : Int) : Int).toNat 0) (List.replicate ((x182000.length : Int) : Int).toNat 0) x182001 (x182001.length : Int) 0 x182000 x182001 x182002 x182003) else (none)) else (none))))
def sequence_CheckK.l1 : Nat → List Int → List Int → List (S60) → Int → Int → List Int → List (S60) → List Int → List Int → Option (Int × Int)
  | 0, _, _, _, _, _, _, _, _, _ => none
  | k + 1, x8, x9, x53, x54, x55, x182000, x182001, x182002, x182003 => if x55 < x54 then (if 0 ≤ x55 then (if x55 < (x53.length : Int) then (if (mn ((rd_T60 x53 x55).f2) ((rd_T60 x53 x55).f3)) < 0 then (sequence_CheckK.j2 k x8 x9 x55 x53 x54 x55 true x182000 x182001 x182002 x182003 ((rd_T60 x53 x55).f0) ((rd_T60 x53 x55).f1) ((rd_T60 x53 x55).f2) ((rd_T60 x53 x55).f3)) else (sequence_CheckK.j2 k x8 x9 x55 x53 x54 x55 (decide ((mx ((rd_T60 x53 x55).f2) ((rd_T60 x53 x55).f3)) ≥ (x182000.length : Int))) x182000 x182001 x182002 x182003 ((rd_T60 x53 x55).f0) ((rd_T60 x53 x55).f1) ((rd_T60 x53 x55).f2) ((rd_T60 x53 x55).f3))) else (none)) else (none)) else (if (x182002.length : Int) = (x182000.length : Int) then (sequence_CheckK.j3 k x8 x9 ((x182003.length : Int) != (x182000.length : Int)) x182000 x182001 x182002 x182003) else (sequence_CheckK.j3 k x8 x9 true x182000 x182001 x182002 x182003))
def sequence_CheckK.j2 : Nat → List Int → List Int → Int → List (S60) → Int → Int → Bool → List Int → List (S60) → List Int → List Int → Int → Int → Int → Int → Option (Int × Int)
  | 0, _, _, _, _, _, _, _, _, _, _, _, _, _, _, _ => none
  | k + 1, x8, x9, x10, x53, x54, x55, x76, x182000, x182001, x182002, x182003, x197000, x197001, x197002, x197003 => if x76 = true then (some (x10, 282)) else (if x10 > 0 then (if 0 ≤ (wrap64 (x10 - 1)) then (if (wrap64 (x10 - 1)) < (x182001.length : Int) then (if x197003 < ((rd_T60 x182001 (wrap64 (x10 - 1))).f3) then (some (x10, 282)) else (if x197003 = ((rd_T60 x182001 (wrap64 (x10 - 1))).f3) then (if x197002 ≤ ((rd_T60 x182001 (wrap64 (x10 - 1))).f2) then (some (x10, 282)) else (if 0 ≤ x197002 then (if x197002 < (x8.length : Int) then (if 0 ≤ x197003 then (if x197003 < (x9.length : Int) then (sequence_CheckK.l1 k (x8.set (x197002 : Int).toNat (wrap64 ((rd x8 x197002) + x197001))) (x9.set (x197003 : Int).toNat (wrap64 ((rd x9 x197003) + x197001))) x53 x54 (wrap64 (x55 + 1)) x182000 x182001 x182002 x182003) else (none)) else (none)) else (none)) else (none))) else (if 0 ≤ x197002 then (if x197002 < (x8.length : Int) then (if 0 ≤ x197003 then (if x197003 < (x9.length : Int) then (sequence_CheckK.l1 k (x8.set (x197002 : Int).toNat (wrap64 ((rd x8 x197002) + x197001))) (x9.set (x197003 : Int).toNat (wrap64 ((rd x9 x197003) + x197001))) x53 x54 (wrap64 (x55 + 1)) x182000 x182001 x182002 x182003) else (none)) else (none)) else (none)) else (none)))) else (none)) else (none)) else (if 0 ≤ x197002 then (if x197002 < (x8.length : Int) then (if 0 ≤ x197003 then (if x197003 < (x9.length : Int) then (sequence_CheckK.l1 k (x8.set (x197002 : Int).toNat (wrap64 ((rd x8 x197002) + x197001))) (x9.set (x197003 : Int).toNat (wrap64 ((rd x9 x197003) + x197001))) x53 x54 (wrap64 (x55 + 1)) x182000 x182001 x182002 x182003) else (none)) else (none)) else (none)) else (none)))
def sequence_CheckK.j3 : Nat → List Int → List Int → Bool → List Int → List (S60) → List Int → List Int → Option (Int × Int)
  | 0, _, _, _, _, _, _, _ => none
  | k + 1, x8, x9, x151, x182000, x182001, x182002, x182003 => if x151 = true then (some (0, 283)) else (sequence_CheckK.l2 k x8 x9 (x182000.length : Int) 0 x182000 x182001 x182002 x182003)
def sequence_CheckK.l2 : Nat → List Int → List Int → Int → Int → List Int → List (S60) → List Int → List Int → Option (Int × Int)
  | 0, _, _, _, _, _, _, _, _ => none
  | k + 1, x8, x9, x154, x155, x182000, x182001, x182002, x182003 => if x155 < x154 then (if 0 ≤ x155 then (if x155 < (x182002.length : Int) then (if x155 < (x8.length : Int) then (if (rd x182002 x155) = (rd x8 x155) then (if x155 < (x182003.length : Int) then (if x155 < (x9.length : Int) then (if (rd x182003 x155) = (rd x9 x155) then (sequence_CheckK.l2 k x8 x9 x154 (wrap64 (x155 + 1)) x182000 x182001 x182002 x182003) else (some (x155, 283))) else (none)) else (none)) else (some (x155, 283))) else (none)) else (none)) else (none)) else (sequence_CheckK.l3 k x8 x9 x182000 (x182000.length : Int) 0)
def sequence_CheckK.l3 : Nat → List Int → List Int → List Int → Int → Int → Option (Int × Int)
  | 0, _, _, _, _, _ => none
  | k + 1, x8, x9, x183, x184, x185 => if x185 < x184 then (if 0 ≤ x185 then (if x185 < (x183.length : Int) then (if x185 < (x8.length : Int) then (if x185 < (x9.length : Int) then (if (mx (rd x8 x185) (rd x9 x185)) > (rd x183 x185) then (some (x185, 4)) else (sequence_CheckK.l3 k x8 x9 x183 x184 (wrap64 (x185 + 1)))) else (none)) else (none)) else (none)) else (none)) else (some (0, 0))
end
def sequence_CheckK.f (k : Nat) (l0_0 : List Int) (l0_1 : List (S60)) (l0_2 : List Int) (l0_3 : List Int) : Option (Int × Int) := (sequence_machine.f l0_0).bind fun t182 => (if t182 = true then (if (l0_1.length : Int) > 1000 then (some (0, 5)) else (sequence_CheckK.l0 k ([] : List (S27)) l0_1 (l0_1.length : Int) 0 l0_0 l0_1 l0_2 l0_3)) else (some (0, 280)))
theorem sequence_CheckK.mono_l : ∀ k, (∀ y0 y1 y2 y3 y4 y5 y6 y7, LeO (sequence_CheckK.l0 k y0 y1 y2 y3 y4 y5 y6 y7) (sequence_CheckK.l0 (k + 1) y0 y1 y2 y3 y4 y5 y6 y7)) ∧ (∀ y0 y1 y2 y3 y4 y5 y6 y7 y8, LeO (sequence_CheckK.l1 k y0 y1 y2 y3 y4 y5 y6 y7 y8) (sequence_CheckK.l1 (k + 1) y0 y1 y2 y3 y4 y5 y6 y7 y8)) ∧ (∀ y0 y1 y2 y3 y4 y5 y6 y7 y8 y9 y10 y11 y12 y13 y14, LeO (sequence_CheckK.j2 k y0 y1 y2 y3 y4 y5 y6 y7 y8 y9 y10 y11 y12 y13 y14) (sequence_CheckK.j2 (k + 1) y0 y1 y2 y3 y4 y5 y6 y7 y8 y9 y10 y11 y12 y13 y14)) ∧ (∀ y0 y1 y2 y3 y4 y5 y6, LeO (sequence_CheckK.j3 k y0 y1 y2 y3 y4 y5 y6) (sequence_CheckK.j3 (k + 1) y0 y1 y2 y3 y4 y5 y6)) ∧ (∀ y0 y1 y2 y3 y4 y5 y6 y7, LeO (sequence_CheckK.l2 k y0 y1 y2 y3 y4 y5 y6 y7) (sequence_CheckK.l2 (k + 1) y0 y1 y2 y3 y4 y5 y6 y7)) ∧ (∀ y0 y1 y2 y3 y4, LeO (sequence_CheckK.l3 k y0 y1 y2 y3 y4) (sequence_CheckK.l3 (k + 1) y0 y1 y2 y3 y4))
  | 0 => ⟨fun _ _ _ _ _ _ _ _ r h => by simp [sequence_CheckK.l0] at h, fun _ _ _ _ _ _ _ _ _ r h => by simp [sequence_CheckK.l1] at h, fun _ _ _ _ _ _ _ _ _ _ _ _ _ _ _ r h => by simp [sequence_CheckK.j2] at h, fun _ _ _ _ _ _ _ r h => by simp [sequence_CheckK.j3] at h, fun _ _ _ _ _ _ _ _ r h => by simp [sequence_CheckK.l2] at h, fun _ _ _ _ _ r h => by simp [sequence_CheckK.l3] at h⟩
  | k + 1 => by
    obtain ⟨ih0, ih1, ih2, ih3, ih4, ih5⟩ := sequence_CheckK.mono_l k
    refine ⟨?_, ?_, ?_, ?_, ?_, ?_⟩
    · intro y0 y1 y2 y3 y4 y5 y6 y7
      unfold sequence_CheckK.l0
      repeat' first
      | (with_reducible exact ih0 _ _ _ _ _ _ _ _)
      | (with_reducible exact ih1 _ _ _ _ _ _ _ _ _)
      | (with_reducible exact ih2 _ _ _ _ _ _ _ _ _ _ _ _ _ _ _)
      | (with_reducible exact ih3 _ _ _ _ _ _ _)
      | (with_reducible exact ih4 _ _ _ _ _ _ _ _)
      | (with_reducible exact ih5 _ _ _ _ _)
      | (with_reducible exact LeO.refl _)
      | (with_reducible exact LeO.none _)
      | (with_reducible refine LeO.ite ?_ ?_)
      | (with_reducible refine LeO.bind ?_ (fun _ => ?_))
      | exact ih0 _ _ _ _ _ _ _ _
      | exact ih1 _ _ _ _ _ _ _ _ _
      | exact ih2 _ _ _ _ _ _ _ _ _ _ _ _ _ _ _
      | exact ih3 _ _ _ _ _ _ _
      | exact ih4 _ _ _ _ _ _ _ _
      | exact ih5 _ _ _ _ _
      | exact LeO.none _
      | refine LeO.ite ?_ ?_
      | refine LeO.bind ?_ (fun _ => ?_)
    · intro y0 y1 y2 y3 y4 y5 y6 y7 y8
      unfold sequence_CheckK.l1
      repeat' first
      | (with_reducible exact ih0 _ _ _ _ _ _ _ _)
      | (with_reducible exact ih1 _ _ _ _ _ _ _ _ _)
      | (with_reducible exact ih2 _ _ _ _ _ _ _ _ _ _ _ _ _ _ _)
      | (with_reducible exact ih3 _ _ _ _ _ _ _)
      | (with_reducible exact ih4 _ _ _ _ _ _ _ _)
      | (with_reducible exact ih5 _ _ _ _ _)
      | (with_reducible exact LeO.refl _)
      | (with_reducible exact LeO.none _)
      | (with_reducible refine LeO.ite ?_ ?_)
      | (with_reducible refine LeO.bind ?_ (fun _ => ?_))
      | exact ih0 _ _ _ _ _ _ _ _
      | exact ih1 _ _ _ _ _ _ _ _ _
      | exact ih2 _ _ _ _ _ _ _ _ _ _ _ _ _ _ _
      | exact ih3 _ _ _ _ _ _ _
      | exact ih4 _ _ _ _ _ _ _ _
      | exact ih5 _ _ _ _ _
      | exact LeO.none _
      | refine LeO.ite ?_ ?_
      | refine LeO.bind ?_ (fun _ => ?_)
    · intro y0 y1 y2 y3 y4 y5 y6 y7 y8 y9 y10 y11 y12 y13 y14
      unfold sequence_CheckK.j2
      repeat' first
      | (with_reducible exact ih0 _ _ _ _ _ _ _ _)
      | (with_reducible exact ih1 _ _ _ _ _ _ _ _ _)
      | (with_reducible exact ih2 _ _ _ _ _ _ _ _ _ _ _ _ _ _ _)
      | (with_reducible exact ih3 _ _ _ _ _ _ _)
      | (with_reducible exact ih4 _ _ _ _ _ _ _ _)
      | (with_reducible exact ih5 _ _ _ _ _)
      | (with_reducible exact LeO.refl _)
      | (with_reducible exact LeO.none _)
      | (with_reducible refine LeO.ite ?_ ?_)
      | (with_reducible refine LeO.bind ?_ (fun _ => ?_))
      | exact ih0 _ _ _ _ _ _ _ _
      | exact ih1 _ _ _ _ _ _ _ _ _
      | exact ih2 _ _ _ _ _ _ _ _ _ _ _ _ _ _ _
      | exact ih3 _ _ _ _ _ _ _
      | exact ih4 _ _ _ _ _ _ _ _
      | exact ih5 _ _ _ _ _
      | exact LeO.none _
      | refine LeO.ite ?_ ?_
      | refine LeO.bind ?_ (fun _ => ?_)
    · intro y0 y1 y2 y3 y4 y5 y6
      unfold sequence_CheckK.j3
      repeat' first
      | (with_reducible exact ih0 _ _ _ _ _ _ _ _)
      | (with_reducible exact ih1 _ _ _ _ _ _ _ _ _)
      | (with_reducible exact ih2 _ _ _ _ _ _ _ _ _ _ _ _ _ _ _)
      | (with_reducible exact ih3 _ _ _ _ _ _ _)
      | (with_reducible exact ih4 _ _ _ _ _ _ _ _)
      | (with_reducible exact ih5 _ _ _ _ _)
      | (with_reducible exact LeO.refl _)
      | (with_reducible exact LeO.none _)
      | (with_reducible refine LeO.ite ?_ ?_)
      | (with_reducible refine LeO.bind ?_ (fun _ => ?_))
      | exact ih0 _ _ _ _ _ _ _ _
      | exact ih1 _ _ _ _ _ _ _ _ _
      | exact ih2 _ _ _ _ _ _ _ _ _ _ _ _ _ _ _
      | exact ih3 _ _ _ _ _ _ _
      | exact ih4 _ _ _ _ _ _ _ _
      | exact ih5 _ _ _ _ _
      | exact LeO.none _
      | refine LeO.ite ?_ ?_
      | refine LeO.bind ?_ (fun _ => ?_)
    · intro y0 y1 y2 y3 y4 y5 y6 y7
      unfold sequence_CheckK.l2
      repeat' first
      | (with_reducible exact ih0 _ _ _ _ _ _ _ _)
      | (with_reducible exact ih1 _ _ _ _ _ _ _ _ _)
      | (with_reducible exact ih2 _ _ _ _ _ _ _ _ _ _ _ _ _ _ _)
      | (with_reducible exact ih3 _ _ _ _ _ _ _)
      | (with_reducible exact ih4 _ _ _ _ _ _ _ _)
      | (with_reducible exact ih5 _ _ _ _ _)
      | (with_reducible exact LeO.refl _)
      | (with_reducible exact LeO.none _)
      | (with_reducible refine LeO.ite ?_ ?_)
      | (with_reducible refine LeO.bind ?_ (fun _ => ?_))
      | exact ih0 _ _ _ _ _ _ _ _
      | exact ih1 _ _ _ _ _ _ _ _ _
      | exact ih2 _ _ _ _ _ _ _ _ _ _ _ _ _ _ _
      | exact ih3 _ _ _ _ _ _ _
      | exact ih4 _ _ _ _ _ _ _ _
      | exact ih5 _ _ _ _ _
      | exact LeO.none _
      | refine LeO.ite ?_ ?_
      | refine LeO.bind ?_ (fun _ => ?_)
    · intro y0 y1 y2 y3 y4
      unfold sequence_CheckK.l3
      repeat' first
      | (with_reducible exact ih0 _ _ _ _ _ _ _ _)
      | (with_reducible exact ih1 _ _ _ _ _ _ _ _ _)
      | (with_reducible exact ih2 _ _ _ _ _ _ _ _ _ _ _ _ _ _ _)
      | (with_reducible exact ih3 _ _ _ _ _ _ _)
      | (with_reducible exact ih4 _ _ _ _ _ _ _ _)
      | (with_reducible exact ih5 _ _ _ _ _)
      | (with_reducible exact LeO.refl _)
      | (with_reducible exact LeO.none _)
      | (with_reducible refine LeO.ite ?_ ?_)
      | (with_reducible refine LeO.bind ?_ (fun _ => ?_))
      | exact ih0 _ _ _ _ _ _ _ _
      | exact ih1 _ _ _ _ _ _ _ _ _
      | exact ih2 _ _ _ _ _ _ _ _ _ _ _ _ _ _ _
      | exact ih3 _ _ _ _ _ _ _
      | exact ih4 _ _ _ _ _ _ _ _
      | exact ih5 _ _ _ _ _
      | exact LeO.none _
      | refine LeO.ite ?_ ?_
      | refine LeO.bind ?_ (fun _ => ?_)
theorem sequence_CheckK.mono : ∀ a0 a1 a2 a3 k, LeO (sequence_CheckK.f k a0 a1 a2 a3) (sequence_CheckK.f (k + 1) a0 a1 a2 a3) := by
  intro a0 a1 a2 a3 k
  obtain ⟨ih0, ih1, ih2, ih3, ih4, ih5⟩ := sequence_CheckK.mono_l k
  unfold sequence_CheckK.f
  repeat' first
      | (with_reducible exact ih0 _ _ _ _ _ _ _ _)
      | (with_reducible exact ih1 _ _ _ _ _ _ _ _ _)
      | (with_reducible exact ih2 _ _ _ _ _ _ _ _ _ _ _ _ _ _ _)
      | (with_reducible exact ih3 _ _ _ _ _ _ _)
      | (with_reducible exact ih4 _ _ _ _ _ _ _ _)
      | (with_reducible exact ih5 _ _ _ _ _)
      | (with_reducible exact LeO.refl _)
      | (with_reducible exact LeO.none _)
      | (with_reducible refine LeO.ite ?_ ?_)
      | (with_reducible refine LeO.bind ?_ (fun _ => ?_))
      | exact ih0 _ _ _ _ _ _ _ _
      | exact ih1 _ _ _ _ _ _ _ _ _
      | exact ih2 _ _ _ _ _ _ _ _ _ _ _ _ _ _ _
      | exact ih3 _ _ _ _ _ _ _
      | exact ih4 _ _ _ _ _ _ _ _
      | exact ih5 _ _ _ _ _
      | exact LeO.none _
      | refine LeO.ite ?_ ?_
      | refine LeO.bind ?_ (fun _ => ?_)
end Go.Proofs.Ytbhcchcjmgfpiaa.Print
