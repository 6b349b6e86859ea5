/- SequenceExact's plain law, in the form that its row asks for. -/
import Derived.Test.YtbhcchcjmgfpiaaPx2
import Derived.Test.YtbhcchcjmgfpiaaGz
namespace Go.Proofs.Ytbhcchcjmgfpiaa.Pure
open Go.RowKit Go.Proofs.Ytbhcchcjmgfpiaa.Print Go.Proofs.YtbhcchcjmgfpiaaW.PrintWords Go.Proofs.YtbhcchcjmgfpiaaW.PrintLast
theorem SequenceExact : letterbaglaw28_SequenceExact.Pure := fun l0 l1 l2 n0 _ w0 n1 _ w1 _ _ w2 => sequenceExact_pure l0 l1 l2 w0 w1 w2 n0 n1
end Go.Proofs.Ytbhcchcjmgfpiaa.Pure
