/- The contract of the law's helper times (a product, and whether there is one, through a pointer). By hand. -/
import Derived.Test.YtehgfpfmpkmdmaaDoorPrint8
import Derived.Deep.DeepMust
namespace Go.Proofs.YtehgfpfmpkmdmaaDoor.Print
open Go.RowKit Go.Proofs.YtehgfpfmpkmdmaaDoorW.PrintWords Go.Proofs.YtehgfpfmpkmdmaaDoorW.PrintLast Go.Proofs.YtehgfpfmpkmdmaaDoorW.PrintMore
set_option linter.unusedVariables false
set_option linter.unusedSimpArgs false
set_option maxHeartbeats 1000000 in
theorem times29 (a b r : Int) (B : Nat) (w0 w : World) (hT : Kd.C (Kd.int .u8) w0 (some ⟨0, 0, none⟩) 63 pwI) (hb : Below w0.heap.size w0 w) (hB : w0.heap.size ≤ B) (hc : w.heap[B]? = some (.cells #[.bool true] 4 (0, 0))) (h : field_Mul.f a b = some (r, 0)) :
    Calls Tryd.prog 29 #[.int .u8 a, .int .u8 b, .pointer (some ⟨B, 0, none⟩)] w fun e w' => e = .returned (.int .u8 r) ∧ w'.heap[B]? = some (.cells #[.bool true] 4 (0, 0)) ∧ Below w0.heap.size w0 w' := by
  have HT := Aside0.mk (Kd.C_below hT hb)
  have HB := Aside0.mk hb
  have HC := Aside0.mk hc
  have HM := Aside0.mk h
  have c0 : w.cell? ⟨B, 0, none⟩ = some (.bool true) := (blk_cell hc 0).trans rfl
  clear hT hb hc h
  go_enter Tryd.func29, Tryd.ntmps29
  go_wp2_with (go_at_call 31; refine (field_Mul.calls a b r 0 _ HT.out HM.out).mono ?_
               rintro e w1 ⟨rfl, hd⟩
               have HC1 := Aside0.mk (blk_below HC.out hd)
               have HB1 := Aside0.mk (below_then HB.out HB.out.size hd)
               have c1 : w1.cell? ⟨B, 0, none⟩ = some (.bool true) := (blk_cell HC1.out 0).trans rfl
               have f1 := blk_frozen HC1.out 0
               clear hd)
  go_ret
  exact ⟨rfl, blk_put HC1.out 0 _ rfl, below_set HB1.out hB⟩
end Go.Proofs.YtehgfpfmpkmdmaaDoor.Print
