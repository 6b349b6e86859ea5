/- SequenceEqual's plain law, in the form that its row asks for. -/
import Derived.Test.YtbhcchcjmgfpiaaPe
import Derived.Test.YtbhcchcjmgfpiaaGp6
namespace Go.Proofs.Ytbhcchcjmgfpiaa.Pure
open Go.RowKit Go.Proofs.Ytbhcchcjmgfpiaa.Print Go.Proofs.YtbhcchcjmgfpiaaW.PrintWords Go.Proofs.YtbhcchcjmgfpiaaW.PrintLast
theorem u8_of {a : Int} (h : (Lit.int .u8 a).wf = true) : 0 ≤ a ∧ a ≤ 255 := by
  simp only [Lit.wf, IntKind.min, IntKind.max, IntKind.signed, IntKind.bits, Bool.and_eq_true] at h
  simpa using h
theorem u16_of {a : Int} (h : (Lit.int .u16 a).wf = true) : 0 ≤ a ∧ a ≤ 65535 := by
  simp only [Lit.wf, IntKind.min, IntKind.max, IntKind.signed, IntKind.bits, Bool.and_eq_true] at h
  simpa using h
theorem SequenceEqual : letterbaglaw28_SequenceEqual.Pure := fun a0 a1 a2 a3 w0 w1 w2 w3 => sequenceEqual_pure a0 a1 a2 a3 (u8_of w0) (u8_of w1) (u8_of w2) (u16_of w3)
end Go.Proofs.Ytbhcchcjmgfpiaa.Pure
