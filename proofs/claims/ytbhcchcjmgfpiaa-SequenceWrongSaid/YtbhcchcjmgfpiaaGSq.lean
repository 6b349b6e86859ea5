/- Short words for long printed texts: a literal row of Bools by its number, and the simp set of a slot that is written. -/
import Derived.Test.YtbhcchcjmgfpiaaPrint0
namespace Go.Proofs.Ytbhcchcjmgfpiaa.Print
open Go.RowKit Go.Proofs.YtbhcchcjmgfpiaaW.PrintWords Go.Proofs.YtbhcchcjmgfpiaaW.PrintLast Go.Proofs.YtbhcchcjmgfpiaaW.PrintMore
/-- The row of n Bools whose numbers stand in m's binary digits, the first one lowest. -/
def bs (n m : Nat) : Array Bool := ((List.range n).map fun i => m.testBit i).toArray
theorem q1 (a : Act) (n : Tmp) (v : Value) : a.put (some n) v = { a with tmps := a.tmps.setIfInBounds n v } := rfl
theorem q2 (a : Act) (v : Value) : a.put none v = a := rfl
theorem q3 (l : List Value) (i : Nat) (x : Value) : l.toArray.setIfInBounds i x = (l.set i x).toArray := by simp
theorem q4 (x y : Value) (l : List Value) : (x :: l).set 0 y = y :: l := rfl
theorem q5 (x : Value) (l : List Value) (n : Nat) (y : Value) : (x :: l).set (n + 1) y = x :: l.set n y := rfl
theorem q6 (n : Int) : IntKind.i64.wrap n = Go.RowKit.wrap64 n := i64_w n
theorem q7 (n : Int) : IntKind.i32.wrap n = Go.RowKit.wrap32 n := i32_w n
end Go.Proofs.Ytbhcchcjmgfpiaa.Print
