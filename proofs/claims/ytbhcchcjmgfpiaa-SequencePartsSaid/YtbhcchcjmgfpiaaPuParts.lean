/- SequenceParts's plain law, in the form that its row asks for. -/
import Derived.Test.YtbhcchcjmgfpiaaPp
import Derived.Test.YtbhcchcjmgfpiaaGq
namespace Go.Proofs.Ytbhcchcjmgfpiaa.Pure
open Go.RowKit Go.Proofs.Ytbhcchcjmgfpiaa.Print Go.Proofs.YtbhcchcjmgfpiaaW.PrintWords Go.Proofs.YtbhcchcjmgfpiaaW.PrintLast
theorem SequenceParts : letterbaglaw28_SequenceParts.Pure := fun l0 l1 l2 a3 n0 _ w0 n1 _ w1 _ _ w2 _ => sequenceParts_pure l0 l1 l2 a3 w0 w1 w2 n0 n1
end Go.Proofs.Ytbhcchcjmgfpiaa.Pure
