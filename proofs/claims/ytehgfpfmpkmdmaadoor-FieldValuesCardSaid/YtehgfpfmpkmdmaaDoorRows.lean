/-
  NARROWER THAN 'FOR EVERY INPUT', by the rows' own cells (each row's printed sentence says how): FieldPolys: laid · FieldDivides: laid · FieldPowers: laid · FieldTells: laid · FieldValues: laid · FieldLaws: laid · FieldRoots: laid · FieldThrough: laid.
  DERIVED. THE GIVEN ROWS OF THIS SEAT. 8 by the template 'for every input the law returns true; each argument reads behind the call as it read before'; 0 by the template 'total and deterministic' (their statements: YtehgfpfmpkmdmaaDoorTotals.lean).
  GIVEN WITH THE SEED: the statements are not yours to turn. If you find one false, say at which input.
  Laid BY PROGRAM, IN A SANDBOX (cutbox-rows.mjs): the forced cells as the released guide's own fill.sh prints them over the translation c06d43473010533d… (all of the seat's roots in one cut). By AI agents, Wed Nov 11 2026. No macro, syntax, notation, axiom, sorry.
-/
import Derived.Test.YtehgfpfmpkmdmaaDoorChecked
import GoSem.Claim
import GoSem.ClaimJoined
import GoSem.ClaimMapViews
import Derived.JoinedTies
import Derived.KernelRfl
namespace Go.Proofs.YtehgfpfmpkmdmaaDoor
/- THE CELL 'sum', in the pinned program and in every row, IS THE sha256 OF THE DUMP (.gsa) THAT YtehgfpfmpkmdmaaDoorProg.lean LOADS. Nothing in Lean hashes anything: it is a label: what it is worth is what the hold of that sum in a sandbox is worth. -/
noncomputable def Tryd.pinned : Pinned := { name := "ytehgfpfmpkmdmaadoor", sum := "c06d43473010533d6b72b13799c32c58362cc2f52a5f9e8d53950af5fefd05af", checked := Tryd.checked }
namespace Rows
def none {H : Type} : Left H := { results := [], args := [] }

/- WHAT THE LISTED PACKAGE-LEVEL VARIABLES READ AS WHEN THE CALL BEGINS. Each datum BY PROGRAM (the guide's laid-datum.mjs) off the statement by which the dump's own 'gosem.cut.vars' lays the variable. In a bare row this is a premise. The card (YtehgfpfmpkmdmaaDoorCards.lean) ties it to the program's text. -/
def laid_letterbag_field_powers {H : Type} : DataW H := .agg [.lit (.int .u8 1), .lit (.int .u8 2), .lit (.int .u8 4), .lit (.int .u8 8), .lit (.int .u8 16), .lit (.int .u8 32), .lit (.int .u8 3), .lit (.int .u8 6), .lit (.int .u8 12), .lit (.int .u8 24), .lit (.int .u8 48), .lit (.int .u8 35), .lit (.int .u8 5), .lit (.int .u8 10), .lit (.int .u8 20), .lit (.int .u8 40), .lit (.int .u8 19), .lit (.int .u8 38), .lit (.int .u8 15), .lit (.int .u8 30), .lit (.int .u8 60), .lit (.int .u8 59), .lit (.int .u8 53), .lit (.int .u8 41), .lit (.int .u8 17), .lit (.int .u8 34), .lit (.int .u8 7), .lit (.int .u8 14), .lit (.int .u8 28), .lit (.int .u8 56), .lit (.int .u8 51), .lit (.int .u8 37), .lit (.int .u8 9), .lit (.int .u8 18), .lit (.int .u8 36), .lit (.int .u8 11), .lit (.int .u8 22), .lit (.int .u8 44), .lit (.int .u8 27), .lit (.int .u8 54), .lit (.int .u8 47), .lit (.int .u8 29), .lit (.int .u8 58), .lit (.int .u8 55), .lit (.int .u8 45), .lit (.int .u8 25), .lit (.int .u8 50), .lit (.int .u8 39), .lit (.int .u8 13), .lit (.int .u8 26), .lit (.int .u8 52), .lit (.int .u8 43), .lit (.int .u8 21), .lit (.int .u8 42), .lit (.int .u8 23), .lit (.int .u8 46), .lit (.int .u8 31), .lit (.int .u8 62), .lit (.int .u8 63), .lit (.int .u8 61), .lit (.int .u8 57), .lit (.int .u8 49), .lit (.int .u8 33)]

/-- 'letterbaglaw18.FieldPolys': WHATEVER THE INPUT: true; the input reads as it did. -/
def fieldPolysSpec : ChangeSpec := { name := "fieldPolys", fn := fun _ => fun
  | [d1, d2] => { results := [.lit (.bool true)], args := [d1, d2] }
  | _ => none }
def fieldPolysRow : OpenClaim := { program := "ytehgfpfmpkmdmaadoor", sum := "c06d43473010533d6b72b13799c32c58362cc2f52a5f9e8d53950af5fefd05af", func := "letterbag/letterbaglaw18.FieldPolys", spec := "fieldPolys", unfollowed := true, recurses := true, named := ["letterbag/field.powers"], apart := false, laid := [("letterbag/field.powers", laid_letterbag_field_powers)] }
def FieldPolysSaid : Prop := fieldPolysRow.holds Tryd.pinned (OpenSpec.ofChange fieldPolysSpec)

/-- ITS FALSE NEIGHBOUR: 'it returns false'. Refute it at one input. -/
def fieldPolysWrong : ChangeSpec := { name := "fieldPolys", fn := fun _ => fun
  | [d1, d2] => { results := [.lit (.bool false)], args := [d1, d2] }
  | _ => none }
def FieldPolysWrongFalsely : Prop := fieldPolysRow.holds Tryd.pinned (OpenSpec.ofChange fieldPolysWrong)

/-- 'letterbaglaw18.FieldDivides': WHATEVER THE INPUT: true; the input reads as it did. -/
def fieldDividesSpec : ChangeSpec := { name := "fieldDivides", fn := fun _ => fun
  | [d1, d2] => { results := [.lit (.bool true)], args := [d1, d2] }
  | _ => none }
def fieldDividesRow : OpenClaim := { program := "ytehgfpfmpkmdmaadoor", sum := "c06d43473010533d6b72b13799c32c58362cc2f52a5f9e8d53950af5fefd05af", func := "letterbag/letterbaglaw18.FieldDivides", spec := "fieldDivides", unfollowed := true, recurses := true, named := ["letterbag/field.powers"], apart := false, laid := [("letterbag/field.powers", laid_letterbag_field_powers)] }
def FieldDividesSaid : Prop := fieldDividesRow.holds Tryd.pinned (OpenSpec.ofChange fieldDividesSpec)

/-- ITS FALSE NEIGHBOUR: 'it returns false'. Refute it at one input. -/
def fieldDividesWrong : ChangeSpec := { name := "fieldDivides", fn := fun _ => fun
  | [d1, d2] => { results := [.lit (.bool false)], args := [d1, d2] }
  | _ => none }
def FieldDividesWrongFalsely : Prop := fieldDividesRow.holds Tryd.pinned (OpenSpec.ofChange fieldDividesWrong)

/-- 'letterbaglaw18.FieldPowers': WHATEVER THE INPUT: true; the input reads as it did. -/
def fieldPowersSpec : ChangeSpec := { name := "fieldPowers", fn := fun _ => fun
  | [d1, d2, d3] => { results := [.lit (.bool true)], args := [d1, d2, d3] }
  | _ => none }
def fieldPowersRow : OpenClaim := { program := "ytehgfpfmpkmdmaadoor", sum := "c06d43473010533d6b72b13799c32c58362cc2f52a5f9e8d53950af5fefd05af", func := "letterbag/letterbaglaw18.FieldPowers", spec := "fieldPowers", unfollowed := true, recurses := true, named := ["letterbag/field.powers"], apart := false, laid := [("letterbag/field.powers", laid_letterbag_field_powers)] }
def FieldPowersSaid : Prop := fieldPowersRow.holds Tryd.pinned (OpenSpec.ofChange fieldPowersSpec)

/-- ITS FALSE NEIGHBOUR: 'it returns false'. Refute it at one input. -/
def fieldPowersWrong : ChangeSpec := { name := "fieldPowers", fn := fun _ => fun
  | [d1, d2, d3] => { results := [.lit (.bool false)], args := [d1, d2, d3] }
  | _ => none }
def FieldPowersWrongFalsely : Prop := fieldPowersRow.holds Tryd.pinned (OpenSpec.ofChange fieldPowersWrong)

/-- 'letterbaglaw18.FieldTells': WHATEVER THE INPUT: true; the input reads as it did. -/
def fieldTellsSpec : ChangeSpec := { name := "fieldTells", fn := fun _ => fun
  | [d1, d2, d3] => { results := [.lit (.bool true)], args := [d1, d2, d3] }
  | _ => none }
def fieldTellsRow : OpenClaim := { program := "ytehgfpfmpkmdmaadoor", sum := "c06d43473010533d6b72b13799c32c58362cc2f52a5f9e8d53950af5fefd05af", func := "letterbag/letterbaglaw18.FieldTells", spec := "fieldTells", unfollowed := true, recurses := true, named := ["letterbag/field.powers"], apart := false, laid := [("letterbag/field.powers", laid_letterbag_field_powers)] }
def FieldTellsSaid : Prop := fieldTellsRow.holds Tryd.pinned (OpenSpec.ofChange fieldTellsSpec)

/-- ITS FALSE NEIGHBOUR: 'it returns false'. Refute it at one input. -/
def fieldTellsWrong : ChangeSpec := { name := "fieldTells", fn := fun _ => fun
  | [d1, d2, d3] => { results := [.lit (.bool false)], args := [d1, d2, d3] }
  | _ => none }
def FieldTellsWrongFalsely : Prop := fieldTellsRow.holds Tryd.pinned (OpenSpec.ofChange fieldTellsWrong)

/-- 'letterbaglaw18.FieldValues': WHATEVER THE INPUT: true; the input reads as it did. -/
def fieldValuesSpec : ChangeSpec := { name := "fieldValues", fn := fun _ => fun
  | [d1, d2, d3, d4] => { results := [.lit (.bool true)], args := [d1, d2, d3, d4] }
  | _ => none }
def fieldValuesRow : OpenClaim := { program := "ytehgfpfmpkmdmaadoor", sum := "c06d43473010533d6b72b13799c32c58362cc2f52a5f9e8d53950af5fefd05af", func := "letterbag/letterbaglaw18.FieldValues", spec := "fieldValues", unfollowed := true, recurses := true, named := ["letterbag/field.powers"], apart := false, laid := [("letterbag/field.powers", laid_letterbag_field_powers)] }
def FieldValuesSaid : Prop := fieldValuesRow.holds Tryd.pinned (OpenSpec.ofChange fieldValuesSpec)

/-- ITS FALSE NEIGHBOUR: 'it returns false'. Refute it at one input. -/
def fieldValuesWrong : ChangeSpec := { name := "fieldValues", fn := fun _ => fun
  | [d1, d2, d3, d4] => { results := [.lit (.bool false)], args := [d1, d2, d3, d4] }
  | _ => none }
def FieldValuesWrongFalsely : Prop := fieldValuesRow.holds Tryd.pinned (OpenSpec.ofChange fieldValuesWrong)

/-- 'letterbaglaw18.FieldLaws': WHATEVER THE INPUT: true; the input reads as it did. -/
def fieldLawsSpec : ChangeSpec := { name := "fieldLaws", fn := fun _ => fun
  | [d1, d2, d3] => { results := [.lit (.bool true)], args := [d1, d2, d3] }
  | _ => none }
def fieldLawsRow : OpenClaim := { program := "ytehgfpfmpkmdmaadoor", sum := "c06d43473010533d6b72b13799c32c58362cc2f52a5f9e8d53950af5fefd05af", func := "letterbag/letterbaglaw18.FieldLaws", spec := "fieldLaws", unfollowed := true, recurses := true, named := ["letterbag/field.powers"], apart := false, laid := [("letterbag/field.powers", laid_letterbag_field_powers)] }
def FieldLawsSaid : Prop := fieldLawsRow.holds Tryd.pinned (OpenSpec.ofChange fieldLawsSpec)

/-- ITS FALSE NEIGHBOUR: 'it returns false'. Refute it at one input. -/
def fieldLawsWrong : ChangeSpec := { name := "fieldLaws", fn := fun _ => fun
  | [d1, d2, d3] => { results := [.lit (.bool false)], args := [d1, d2, d3] }
  | _ => none }
def FieldLawsWrongFalsely : Prop := fieldLawsRow.holds Tryd.pinned (OpenSpec.ofChange fieldLawsWrong)

/-- 'letterbaglaw18.FieldRoots': WHATEVER THE INPUT: true; the input reads as it did. -/
def fieldRootsSpec : ChangeSpec := { name := "fieldRoots", fn := fun _ => fun
  | [d1, d2] => { results := [.lit (.bool true)], args := [d1, d2] }
  | _ => none }
def fieldRootsRow : OpenClaim := { program := "ytehgfpfmpkmdmaadoor", sum := "c06d43473010533d6b72b13799c32c58362cc2f52a5f9e8d53950af5fefd05af", func := "letterbag/letterbaglaw18.FieldRoots", spec := "fieldRoots", unfollowed := true, recurses := true, named := ["letterbag/field.powers"], apart := false, laid := [("letterbag/field.powers", laid_letterbag_field_powers)] }
def FieldRootsSaid : Prop := fieldRootsRow.holds Tryd.pinned (OpenSpec.ofChange fieldRootsSpec)

/-- ITS FALSE NEIGHBOUR: 'it returns false'. Refute it at one input. -/
def fieldRootsWrong : ChangeSpec := { name := "fieldRoots", fn := fun _ => fun
  | [d1, d2] => { results := [.lit (.bool false)], args := [d1, d2] }
  | _ => none }
def FieldRootsWrongFalsely : Prop := fieldRootsRow.holds Tryd.pinned (OpenSpec.ofChange fieldRootsWrong)

/-- 'letterbaglaw18.FieldThrough': WHATEVER THE INPUT: true; the input reads as it did. -/
def fieldThroughSpec : ChangeSpec := { name := "fieldThrough", fn := fun _ => fun
  | [d1, d2] => { results := [.lit (.bool true)], args := [d1, d2] }
  | _ => none }
def fieldThroughRow : OpenClaim := { program := "ytehgfpfmpkmdmaadoor", sum := "c06d43473010533d6b72b13799c32c58362cc2f52a5f9e8d53950af5fefd05af", func := "letterbag/letterbaglaw18.FieldThrough", spec := "fieldThrough", unfollowed := true, recurses := true, named := ["letterbag/field.powers"], apart := false, laid := [("letterbag/field.powers", laid_letterbag_field_powers)] }
def FieldThroughSaid : Prop := fieldThroughRow.holds Tryd.pinned (OpenSpec.ofChange fieldThroughSpec)

/-- ITS FALSE NEIGHBOUR: 'it returns false'. Refute it at one input. -/
def fieldThroughWrong : ChangeSpec := { name := "fieldThrough", fn := fun _ => fun
  | [d1, d2] => { results := [.lit (.bool false)], args := [d1, d2] }
  | _ => none }
def FieldThroughWrongFalsely : Prop := fieldThroughRow.holds Tryd.pinned (OpenSpec.ofChange fieldThroughWrong)

/- THE SECOND FORM. 'bulk': how many values and letters a reading holds, each counted each time it is reached (what is shared counts as often as it is met; a slice's spare places count too). A statement '..UptoSaid' is the law's where the arguments, and the package variables that the reading takes, are together of bulk at most 1048576: NARROWER than '..Said'. Prove '..Said' where nothing that the law and all that it calls make is longer than what came in: it says more and counts as full. Else prove '..UptoSaid'. A law counts once. -/
mutual
def uptoBulk {H : Type} : DataW H → Nat
  | .lit (.string bytes) => bytes.length + 1
  | .lit _ => 1
  | .nil => 1
  | .ptr d => uptoBulk d + 1
  | .slice elems spare => uptoBulkAll elems + uptoBulkAll spare + 1
  | .agg parts => uptoBulkAll parts + 1
  | .iface _ d => uptoBulk d + 1
  | .map entries => uptoBulkEntries entries + 1
  | .held _ => 1
def uptoBulkAll {H : Type} : List (DataW H) → Nat
  | [] => 0
  | d :: r => uptoBulk d + uptoBulkAll r
def uptoBulkEntries {H : Type} : List (Lit × DataW H) → Nat
  | [] => 0
  | x :: r => uptoBulkEntry x + uptoBulkEntries r
def uptoBulkEntry {H : Type} : Lit × DataW H → Nat
  | (.string bytes, d) => bytes.length + uptoBulk d + 1
  | (_, d) => uptoBulk d + 1
 end
def uptoSmall : (H : Type) → List (DataW H) → Bool := fun _ ds => decide (uptoBulkAll ds ≤ 1048576)
def OpenSpec.upto (s : _root_.Go.ChangeSpec) : _root_.Go.OpenSpec := { _root_.Go.OpenSpec.ofChange s with cond := some uptoSmall }

/-- 'letterbaglaw18.FieldPolys', WHERE WHAT IT READS IS OF BULK AT MOST 1048576: true; the input reads as it did. -/
def fieldPolysUptoRow : OpenClaim := { program := "ytehgfpfmpkmdmaadoor", sum := "c06d43473010533d6b72b13799c32c58362cc2f52a5f9e8d53950af5fefd05af", func := "letterbag/letterbaglaw18.FieldPolys", spec := "fieldPolys", unfollowed := true, recurses := true, named := ["letterbag/field.powers"], apart := false, laid := [("letterbag/field.powers", laid_letterbag_field_powers)], narrowed := true }
def FieldPolysUptoSaid : Prop := fieldPolysUptoRow.holds Tryd.pinned (OpenSpec.upto fieldPolysSpec)

/-- 'letterbaglaw18.FieldDivides', WHERE WHAT IT READS IS OF BULK AT MOST 1048576: true; the input reads as it did. -/
def fieldDividesUptoRow : OpenClaim := { program := "ytehgfpfmpkmdmaadoor", sum := "c06d43473010533d6b72b13799c32c58362cc2f52a5f9e8d53950af5fefd05af", func := "letterbag/letterbaglaw18.FieldDivides", spec := "fieldDivides", unfollowed := true, recurses := true, named := ["letterbag/field.powers"], apart := false, laid := [("letterbag/field.powers", laid_letterbag_field_powers)], narrowed := true }
def FieldDividesUptoSaid : Prop := fieldDividesUptoRow.holds Tryd.pinned (OpenSpec.upto fieldDividesSpec)

/-- 'letterbaglaw18.FieldPowers', WHERE WHAT IT READS IS OF BULK AT MOST 1048576: true; the input reads as it did. -/
def fieldPowersUptoRow : OpenClaim := { program := "ytehgfpfmpkmdmaadoor", sum := "c06d43473010533d6b72b13799c32c58362cc2f52a5f9e8d53950af5fefd05af", func := "letterbag/letterbaglaw18.FieldPowers", spec := "fieldPowers", unfollowed := true, recurses := true, named := ["letterbag/field.powers"], apart := false, laid := [("letterbag/field.powers", laid_letterbag_field_powers)], narrowed := true }
def FieldPowersUptoSaid : Prop := fieldPowersUptoRow.holds Tryd.pinned (OpenSpec.upto fieldPowersSpec)

/-- 'letterbaglaw18.FieldTells', WHERE WHAT IT READS IS OF BULK AT MOST 1048576: true; the input reads as it did. -/
def fieldTellsUptoRow : OpenClaim := { program := "ytehgfpfmpkmdmaadoor", sum := "c06d43473010533d6b72b13799c32c58362cc2f52a5f9e8d53950af5fefd05af", func := "letterbag/letterbaglaw18.FieldTells", spec := "fieldTells", unfollowed := true, recurses := true, named := ["letterbag/field.powers"], apart := false, laid := [("letterbag/field.powers", laid_letterbag_field_powers)], narrowed := true }
def FieldTellsUptoSaid : Prop := fieldTellsUptoRow.holds Tryd.pinned (OpenSpec.upto fieldTellsSpec)

/-- 'letterbaglaw18.FieldValues', WHERE WHAT IT READS IS OF BULK AT MOST 1048576: true; the input reads as it did. -/
def fieldValuesUptoRow : OpenClaim := { program := "ytehgfpfmpkmdmaadoor", sum := "c06d43473010533d6b72b13799c32c58362cc2f52a5f9e8d53950af5fefd05af", func := "letterbag/letterbaglaw18.FieldValues", spec := "fieldValues", unfollowed := true, recurses := true, named := ["letterbag/field.powers"], apart := false, laid := [("letterbag/field.powers", laid_letterbag_field_powers)], narrowed := true }
def FieldValuesUptoSaid : Prop := fieldValuesUptoRow.holds Tryd.pinned (OpenSpec.upto fieldValuesSpec)

/-- 'letterbaglaw18.FieldLaws', WHERE WHAT IT READS IS OF BULK AT MOST 1048576: true; the input reads as it did. -/
def fieldLawsUptoRow : OpenClaim := { program := "ytehgfpfmpkmdmaadoor", sum := "c06d43473010533d6b72b13799c32c58362cc2f52a5f9e8d53950af5fefd05af", func := "letterbag/letterbaglaw18.FieldLaws", spec := "fieldLaws", unfollowed := true, recurses := true, named := ["letterbag/field.powers"], apart := false, laid := [("letterbag/field.powers", laid_letterbag_field_powers)], narrowed := true }
def FieldLawsUptoSaid : Prop := fieldLawsUptoRow.holds Tryd.pinned (OpenSpec.upto fieldLawsSpec)

/-- 'letterbaglaw18.FieldRoots', WHERE WHAT IT READS IS OF BULK AT MOST 1048576: true; the input reads as it did. -/
def fieldRootsUptoRow : OpenClaim := { program := "ytehgfpfmpkmdmaadoor", sum := "c06d43473010533d6b72b13799c32c58362cc2f52a5f9e8d53950af5fefd05af", func := "letterbag/letterbaglaw18.FieldRoots", spec := "fieldRoots", unfollowed := true, recurses := true, named := ["letterbag/field.powers"], apart := false, laid := [("letterbag/field.powers", laid_letterbag_field_powers)], narrowed := true }
def FieldRootsUptoSaid : Prop := fieldRootsUptoRow.holds Tryd.pinned (OpenSpec.upto fieldRootsSpec)

/-- 'letterbaglaw18.FieldThrough', WHERE WHAT IT READS IS OF BULK AT MOST 1048576: true; the input reads as it did. -/
def fieldThroughUptoRow : OpenClaim := { program := "ytehgfpfmpkmdmaadoor", sum := "c06d43473010533d6b72b13799c32c58362cc2f52a5f9e8d53950af5fefd05af", func := "letterbag/letterbaglaw18.FieldThrough", spec := "fieldThrough", unfollowed := true, recurses := true, named := ["letterbag/field.powers"], apart := false, laid := [("letterbag/field.powers", laid_letterbag_field_powers)], narrowed := true }
def FieldThroughUptoSaid : Prop := fieldThroughUptoRow.holds Tryd.pinned (OpenSpec.upto fieldThroughSpec)

end Rows
end Go.Proofs.YtehgfpfmpkmdmaaDoor
