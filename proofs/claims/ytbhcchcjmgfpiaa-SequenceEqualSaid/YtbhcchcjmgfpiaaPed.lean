-- Written by a program of this seat (the printer's forms over given functions); Lean checks it.
import Derived.Test.YtbhcchcjmgfpiaaPrint0
import Derived.Test.YtbhcchcjmgfpiaaGcf
import Derived.Test.YtbhcchcjmgfpiaaGd3b
import Derived.Test.YtbhcchcjmgfpiaaGwf
namespace Go.Proofs.Ytbhcchcjmgfpiaa.Print
open Go.RowKit Go.Proofs.YtbhcchcjmgfpiaaW.PrintWords Go.Proofs.YtbhcchcjmgfpiaaW.PrintLast Go.Proofs.YtbhcchcjmgfpiaaW.PrintMore
attribute [local go_sem] max2_int min2_int max_two min_two max_three min_three max_four min_four   -- for this text's walks alone
set_option linter.unusedVariables false
set_option linter.unusedSimpArgs false

/-! ### letterbaglaw28_SequenceEqual: function 5 -/
mutual
def letterbaglaw28_SequenceEqual.l0 : Nat → Int → Int → Int → Int → List Int → Int → Int → Option (Bool)
  | 0, _, _, _, _, _, _, _ => none
  | k + 1, x2, x3, x9, x10, x11, x33, x34 => if x34 < x33 then (if 0 ≤ x34 then (if x34 < (x11.length : Int) then (letterbaglaw28_SequenceEqual.l0 k x2 x3 x9 x10 (x11.set (x34 : Int).toNat (wrap64 ((wrap64 (x9 * x10)) + (wrap64 (x2))))) x33 (wrap64 (x34 + 1))) else (none)) else (none)) else (if (wrap64 ((wrap64 (x9 * x9)) + 1)) = 0 then (none) else ((some (([Int.tmod (wrap64 (x3)) (wrap64 ((wrap64 (x9 * x9)) + 1)), wrap64 (x9 * x9), wrap64 ((wrap64 (x9 * x9)) + 1)] : List Int) : List Int)).bind fun y371 => (letterbaglaw28_SequenceEqual.l1 k x9 x10 x11 y371 (y371.length : Int) 0)))
def letterbaglaw28_SequenceEqual.l1 : Nat → Int → Int → List Int → List Int → Int → Int → Option (Bool)
  | 0, _, _, _, _, _, _ => none
  | k + 1, x9, x10, x11, x62, x63, x64 => if x64 < x63 then (if 0 ≤ x64 then (if x64 < (x62.length : Int) then (letterbaglaw28_SequenceEqual.l2 k x9 x10 x11 (rd x62 x64) ([] : List (S27)) 0 x62 x63 x64) else (none)) else (none)) else ((letterbaglaw28_awake.f).bind fun t374 => (some t374))
def letterbaglaw28_SequenceEqual.l2 : Nat → Int → Int → List Int → Int → List (S27) → Int → List Int → Int → Int → Option (Bool)
  | 0, _, _, _, _, _, _, _, _, _ => none
  | k + 1, x9, x10, x11, x15, x16, x17, x62, x63, x64 => if x17 < x15 then (if x16.length < 8796093022208 then (letterbaglaw28_SequenceEqual.l2 k x9 x10 x11 x15 (x16 ++ [(⟨wrap64 (x17 + 1), x10⟩ : S27)]) (wrap64 (x17 + 1)) x62 x63 x64) else (none)) else ((sequence_Make.f x16 x11).bind fun bt379 => (if x15 > (wrap64 (x9 * x9)) then (if bt379.2.2.2.2 = 4 then (letterbaglaw28_SequenceEqual.l1 k x9 x10 x11 x62 x63 (wrap64 (x64 + 1))) else (some false)) else (if bt379.2.2.2.2 = 0 then (letterbaglaw28_SequenceEqual.j3 k x9 x10 x11 x62 x63 x64 ((bt379.2.1.length : Int) != x15) bt379.1 bt379.2.1 bt379.2.2.1 bt379.2.2.2.1) else (letterbaglaw28_SequenceEqual.j3 k x9 x10 x11 x62 x63 x64 true bt379.1 bt379.2.1 bt379.2.2.1 bt379.2.2.2.1))))
def letterbaglaw28_SequenceEqual.j3 : Nat → Int → Int → List Int → List Int → Int → Int → Bool → List Int → List (S60) → List Int → List Int → Option (Bool)
  | 0, _, _, _, _, _, _, _, _, _, _, _ => none
  | k + 1, x9, x10, x11, x62, x63, x64, x101, x393000, x393001, x393002, x393003 => if x101 = true then (some false) else ((sequence_Check.f x393000 x393001 x393002 x393003).bind fun bt393 => (if bt393.2 = 0 then (letterbaglaw28_SequenceEqual.l1 k x9 x10 x11 x62 x63 (wrap64 (x64 + 1))) else (some false)))
end
def letterbaglaw28_SequenceEqual.f (k : Nat) (a0 : Int) (a1 : Int) (a2 : Int) (a3 : Int) : Option (Bool) := if 0 ≤ (wrap64 (1 + (Int.tmod (wrap64 (a0)) 30))) then (if (wrap64 (1 + (Int.tmod (wrap64 (a0)) 30)) : Int).toNat ≤ 35184372088832 then ((some (List.replicate (wrap64 (1 + (Int.tmod (wrap64 (a0)) 30)) : Int).toNat 0 : List Int)).bind fun y367 => (letterbaglaw28_SequenceEqual.l0 k a2 a3 (wrap64 (1 + (Int.tmod (wrap64 (a0)) 30))) (wrap64 (1 + (Int.tmod (wrap64 (a1)) 100))) y367 (y367.length : Int) 0)) else (none)) else (none)
end Go.Proofs.Ytbhcchcjmgfpiaa.Print
