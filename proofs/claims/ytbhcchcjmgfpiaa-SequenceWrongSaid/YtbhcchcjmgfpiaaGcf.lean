/- sequence.Check's function, without a number of rounds: five thousand are enough. -/
import Derived.Test.YtbhcchcjmgfpiaaGcd
namespace Go.Proofs.Ytbhcchcjmgfpiaa.Print
def sequence_Check.f (l0_0 : List Int) (l0_1 : List (S60)) (l0_2 : List Int) (l0_3 : List Int) : Option (Int × Int) := sequence_CheckK.f 5000 l0_0 l0_1 l0_2 l0_3
end Go.Proofs.Ytbhcchcjmgfpiaa.Print
