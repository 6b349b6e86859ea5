/- awake's function: the examples hold. -/
import Derived.Test.YtbhcchcjmgfpiaaPrint0
namespace Go.Proofs.Ytbhcchcjmgfpiaa.Print
def letterbaglaw28_awake.f : Option Bool := some true
end Go.Proofs.Ytbhcchcjmgfpiaa.Print
