import Derived.Test.YtbhcchcjmgfpiaaWShare
import Derived.Test.YtbhcchcjmgfpiaaWZeros
namespace Go.Proofs.YtbhcchcjmgfpiaaW.PrintWords
open Go.RowKit
namespace Kd
section
variable {α : Type} {d : Kd α} {e base n cc g : Nat} {ok ok' okp S : Nat → Prop} {w w1 W W1 : World} {A : Option Addr} {u v v1 : Value} {xs : List α} {x : α} {c : List Value}
end
end Kd
end Go.Proofs.YtbhcchcjmgfpiaaW.PrintWords
