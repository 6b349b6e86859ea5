/- awake of letterbaglaw18: it answers true. -/
import Derived.Test.YtehgfpfmpkmdmaaDoorGwk
namespace Go.Proofs.YtehgfpfmpkmdmaaDoor.Print
open Go.RowKit Go.Proofs.YtehgfpfmpkmdmaaDoorW.PrintWords Go.Proofs.YtehgfpfmpkmdmaaDoorW.PrintLast Go.Proofs.YtehgfpfmpkmdmaaDoorW.PrintMore
def letterbaglaw18_awake.f : Option Bool := some true
theorem awakeK_true : letterbaglaw18_awakeK.f 300 = some true := by decide +kernel
theorem letterbaglaw18_awake.calls (r : Bool) (w : World) (hT : Kd.C (Kd.int .u8) w (some ⟨0, 0, none⟩) 63 pwI) (h : letterbaglaw18_awake.f = some r) :
    Calls Tryd.prog 11 #[] w fun e w' => e = .returned (.bool r) ∧ Below w.heap.size w w' := by
  obtain rfl := Option.some.inj (show some true = some r from h)
  exact letterbaglaw18_awakeK.calls 300 w hT awakeK_true
end Go.Proofs.YtehgfpfmpkmdmaaDoor.Print
