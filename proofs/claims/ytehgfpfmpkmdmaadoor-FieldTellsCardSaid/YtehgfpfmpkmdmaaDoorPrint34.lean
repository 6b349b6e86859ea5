-- Written by a program of this seat (the printer's forms over given functions); Lean checks it.
import Derived.Test.YtehgfpfmpkmdmaaDoorPrint0
import Derived.Test.YtehgfpfmpkmdmaaDoorPrint8
import Derived.Test.YtehgfpfmpkmdmaaDoorPrint23
import Derived.Test.YtehgfpfmpkmdmaaDoorPrint25
import Derived.Test.YtehgfpfmpkmdmaaDoorPrint31
import Derived.Test.YtehgfpfmpkmdmaaDoorPrint32
import Derived.Test.YtehgfpfmpkmdmaaDoorPrint33
import Derived.Test.YtehgfpfmpkmdmaaDoorGa
import Derived.Test.YtehgfpfmpkmdmaaDoorGw
namespace Go.Proofs.YtehgfpfmpkmdmaaDoor.Print
open Go.RowKit Go.Proofs.YtehgfpfmpkmdmaaDoorW.PrintWords Go.Proofs.YtehgfpfmpkmdmaaDoorW.PrintLast Go.Proofs.YtehgfpfmpkmdmaaDoorW.PrintMore
attribute [local go_sem] max2_int min2_int max_two min_two max_three min_three max_four min_four   -- for this text's walks alone
set_option linter.unusedVariables false
set_option linter.unusedSimpArgs false

/-! ### letterbaglaw18_FieldTells: function 6 -/
mutual
def letterbaglaw18_FieldTells.j0 : Nat → Int → Int → Int → Int → Int → Int → Int → Int → Int → Int → Int → Int → Int → Bool → Option (Bool)
  | 0, _, _, _, _, _, _, _, _, _, _, _, _, _, _ => none
  | k + 1, x0, x1, x2, x7, x8, x9, x10, x11, x12, x13, x14, x15, x16, x53 => if x53 = true then (if x8 = 2 then (if x10 = x8 then (if x7 = 0 then (if x9 = 0 then (letterbaglaw18_FieldTells.j1 k x0 x2 x11 x12 x13 x14 x15 x16) else (some false)) else (some false)) else (some false)) else (some false)) else (if x8 = 0 then (if x10 = x8 then (if x7 = (Go.bits .xor .u8 x0 x1) then ((letterbagref18_Mul.f k x0 x1).bind fun t377 => (if x9 = t377 then (letterbaglaw18_FieldTells.j1 k x0 x2 x11 x12 x13 x14 x15 x16) else (some false))) else (some false)) else (some false)) else (some false))
def letterbaglaw18_FieldTells.j1 : Nat → Int → Int → Int → Int → Int → Int → Int → Int → Option (Bool)
  | 0, _, _, _, _, _, _, _, _ => none
  | k + 1, x0, x2, x11, x12, x13, x14, x15, x16 => if x0 > 63 then (if x12 = 2 then (if x14 = x12 then (if x16 = x12 then (if x11 = 0 then (if x13 = 0 then (if x15 = 0 then ((letterbaglaw18_awake.f).bind fun t378 => (some t378)) else (some false)) else (some false)) else (some false)) else (some false)) else (some false)) else (some false)) else (if x0 = 0 then (if x2 = 0 then (if x2 < 0 then (if x12 = 6 then (if x16 = x12 then (if x14 = 6 then (if x11 = 0 then (if x13 = 1 then (if x15 = 0 then ((letterbaglaw18_awake.f).bind fun t379 => (some t379)) else (some false)) else (some false)) else (some false)) else (some false)) else (some false)) else (some false)) else (if x12 = 6 then (if x16 = x12 then (if x14 = 0 then (if x11 = 0 then (if x13 = 1 then (if x15 = 0 then ((letterbaglaw18_awake.f).bind fun t380 => (some t380)) else (some false)) else (some false)) else (some false)) else (some false)) else (some false)) else (some false))) else (if x2 < 0 then (if x12 = 6 then (if x16 = x12 then (if x14 = 6 then (if x11 = 0 then (if x13 = 0 then (if x15 = 0 then ((letterbaglaw18_awake.f).bind fun t381 => (some t381)) else (some false)) else (some false)) else (some false)) else (some false)) else (some false)) else (some false)) else (if x12 = 6 then (if x16 = x12 then (if x14 = 0 then (if x11 = 0 then (if x13 = 0 then (if x15 = 0 then ((letterbaglaw18_awake.f).bind fun t382 => (some t382)) else (some false)) else (some false)) else (some false)) else (some false)) else (some false)) else (some false)))) else (if (Int.tmod x2 63) < 0 then (letterbaglaw18_FieldTells.j2 k x0 x11 x12 x13 x14 x15 x16 (wrap64 ((Int.tmod x2 63) + 63))) else (letterbaglaw18_FieldTells.j2 k x0 x11 x12 x13 x14 x15 x16 (Int.tmod x2 63))))
def letterbaglaw18_FieldTells.j2 : Nat → Int → Int → Int → Int → Int → Int → Int → Int → Option (Bool)
  | 0, _, _, _, _, _, _, _, _ => none
  | k + 1, x0, x11, x12, x13, x14, x15, x16, x19 => if x12 = 0 then (if x14 = x12 then (if x16 = x12 then ((letterbagref18_Inv.f k x0).bind fun t383 => (if x11 = t383 then ((letterbagref18_Log.f k x0).bind fun t384 => (if x15 = t384 then ((letterbagref18_Pow.f k x0 x19).bind fun t385 => (if x13 = t385 then ((letterbaglaw18_awake.f).bind fun t386 => (some t386)) else (some false))) else (some false))) else (some false))) else (some false)) else (some false)) else (some false)
end
def letterbaglaw18_FieldTells.f (k : Nat) (a0 : Int) (a1 : Int) (a2 : Int) : Option (Bool) := (field_Add.f a0 a1).bind fun bt367 => ((field_Mul.f a0 a1).bind fun bt369 => ((field_Inv.f a0).bind fun bt371 => ((field_Pow.f a0 a2).bind fun bt373 => ((field_Log.f a0).bind fun bt375 => (if a0 > 63 then (letterbaglaw18_FieldTells.j0 k a0 a1 a2 bt367.1 bt367.2 bt369.1 bt369.2 bt371.1 bt371.2 bt373.1 bt373.2 bt375.1 bt375.2 true) else (letterbaglaw18_FieldTells.j0 k a0 a1 a2 bt367.1 bt367.2 bt369.1 bt369.2 bt371.1 bt371.2 bt373.1 bt373.2 bt375.1 bt375.2 (decide (a1 > 63))))))))
theorem letterbaglaw18_FieldTells.mono_l : ∀ k, (∀ y0 y1 y2 y3 y4 y5 y6 y7 y8 y9 y10 y11 y12 y13, LeO (letterbaglaw18_FieldTells.j0 k y0 y1 y2 y3 y4 y5 y6 y7 y8 y9 y10 y11 y12 y13) (letterbaglaw18_FieldTells.j0 (k + 1) y0 y1 y2 y3 y4 y5 y6 y7 y8 y9 y10 y11 y12 y13)) ∧ (∀ y0 y1 y2 y3 y4 y5 y6 y7, LeO (letterbaglaw18_FieldTells.j1 k y0 y1 y2 y3 y4 y5 y6 y7) (letterbaglaw18_FieldTells.j1 (k + 1) y0 y1 y2 y3 y4 y5 y6 y7)) ∧ (∀ y0 y1 y2 y3 y4 y5 y6 y7, LeO (letterbaglaw18_FieldTells.j2 k y0 y1 y2 y3 y4 y5 y6 y7) (letterbaglaw18_FieldTells.j2 (k + 1) y0 y1 y2 y3 y4 y5 y6 y7))
  | 0 => ⟨fun _ _ _ _ _ _ _ _ _ _ _ _ _ _ r h => by simp [letterbaglaw18_FieldTells.j0] at h, fun _ _ _ _ _ _ _ _ r h => by simp [letterbaglaw18_FieldTells.j1] at h, fun _ _ _ _ _ _ _ _ r h => by simp [letterbaglaw18_FieldTells.j2] at h⟩
  | k + 1 => by
    obtain ⟨ih0, ih1, ih2⟩ := letterbaglaw18_FieldTells.mono_l k
    refine ⟨?_, ?_, ?_⟩
    · intro y0 y1 y2 y3 y4 y5 y6 y7 y8 y9 y10 y11 y12 y13
      unfold letterbaglaw18_FieldTells.j0
      repeat' first
      | (with_reducible exact ih0 _ _ _ _ _ _ _ _ _ _ _ _ _ _)
      | (with_reducible exact ih1 _ _ _ _ _ _ _ _)
      | (with_reducible exact ih2 _ _ _ _ _ _ _ _)
      | (with_reducible exact letterbagref18_Inv.mono _ _)
      | (with_reducible exact letterbagref18_Log.mono _ _)
      | (with_reducible exact letterbagref18_Mul.mono _ _ _)
      | (with_reducible exact letterbagref18_Pow.mono _ _ _)
      | (with_reducible exact LeO.refl _)
      | (with_reducible exact LeO.none _)
      | (with_reducible refine LeO.ite ?_ ?_)
      | (with_reducible refine LeO.bind ?_ (fun _ => ?_))
      | exact ih0 _ _ _ _ _ _ _ _ _ _ _ _ _ _
      | exact ih1 _ _ _ _ _ _ _ _
      | exact ih2 _ _ _ _ _ _ _ _
      | exact letterbagref18_Inv.mono _ _
      | exact letterbagref18_Log.mono _ _
      | exact letterbagref18_Mul.mono _ _ _
      | exact letterbagref18_Pow.mono _ _ _
      | exact LeO.none _
      | refine LeO.ite ?_ ?_
      | refine LeO.bind ?_ (fun _ => ?_)
    · intro y0 y1 y2 y3 y4 y5 y6 y7
      unfold letterbaglaw18_FieldTells.j1
      repeat' first
      | (with_reducible exact ih0 _ _ _ _ _ _ _ _ _ _ _ _ _ _)
      | (with_reducible exact ih1 _ _ _ _ _ _ _ _)
      | (with_reducible exact ih2 _ _ _ _ _ _ _ _)
      | (with_reducible exact letterbagref18_Inv.mono _ _)
      | (with_reducible exact letterbagref18_Log.mono _ _)
      | (with_reducible exact letterbagref18_Mul.mono _ _ _)
      | (with_reducible exact letterbagref18_Pow.mono _ _ _)
      | (with_reducible exact LeO.refl _)
      | (with_reducible exact LeO.none _)
      | (with_reducible refine LeO.ite ?_ ?_)
      | (with_reducible refine LeO.bind ?_ (fun _ => ?_))
      | exact ih0 _ _ _ _ _ _ _ _ _ _ _ _ _ _
      | exact ih1 _ _ _ _ _ _ _ _
      | exact ih2 _ _ _ _ _ _ _ _
      | exact letterbagref18_Inv.mono _ _
      | exact letterbagref18_Log.mono _ _
      | exact letterbagref18_Mul.mono _ _ _
      | exact letterbagref18_Pow.mono _ _ _
      | exact LeO.none _
      | refine LeO.ite ?_ ?_
      | refine LeO.bind ?_ (fun _ => ?_)
    · intro y0 y1 y2 y3 y4 y5 y6 y7
      unfold letterbaglaw18_FieldTells.j2
      repeat' first
      | (with_reducible exact ih0 _ _ _ _ _ _ _ _ _ _ _ _ _ _)
      | (with_reducible exact ih1 _ _ _ _ _ _ _ _)
      | (with_reducible exact ih2 _ _ _ _ _ _ _ _)
      | (with_reducible exact letterbagref18_Inv.mono _ _)
      | (with_reducible exact letterbagref18_Log.mono _ _)
      | (with_reducible exact letterbagref18_Mul.mono _ _ _)
      | (with_reducible exact letterbagref18_Pow.mono _ _ _)
      | (with_reducible exact LeO.refl _)
      | (with_reducible exact LeO.none _)
      | (with_reducible refine LeO.ite ?_ ?_)
      | (with_reducible refine LeO.bind ?_ (fun _ => ?_))
      | exact ih0 _ _ _ _ _ _ _ _ _ _ _ _ _ _
      | exact ih1 _ _ _ _ _ _ _ _
      | exact ih2 _ _ _ _ _ _ _ _
      | exact letterbagref18_Inv.mono _ _
      | exact letterbagref18_Log.mono _ _
      | exact letterbagref18_Mul.mono _ _ _
      | exact letterbagref18_Pow.mono _ _ _
      | exact LeO.none _
      | refine LeO.ite ?_ ?_
      | refine LeO.bind ?_ (fun _ => ?_)
theorem letterbaglaw18_FieldTells.mono : ∀ a0 a1 a2 k, LeO (letterbaglaw18_FieldTells.f k a0 a1 a2) (letterbaglaw18_FieldTells.f (k + 1) a0 a1 a2) := by
  intro a0 a1 a2 k
  obtain ⟨ih0, ih1, ih2⟩ := letterbaglaw18_FieldTells.mono_l k
  unfold letterbaglaw18_FieldTells.f
  repeat' first
      | (with_reducible exact ih0 _ _ _ _ _ _ _ _ _ _ _ _ _ _)
      | (with_reducible exact ih1 _ _ _ _ _ _ _ _)
      | (with_reducible exact ih2 _ _ _ _ _ _ _ _)
      | (with_reducible exact letterbagref18_Inv.mono _ _)
      | (with_reducible exact letterbagref18_Log.mono _ _)
      | (with_reducible exact letterbagref18_Mul.mono _ _ _)
      | (with_reducible exact letterbagref18_Pow.mono _ _ _)
      | (with_reducible exact LeO.refl _)
      | (with_reducible exact LeO.none _)
      | (with_reducible refine LeO.ite ?_ ?_)
      | (with_reducible refine LeO.bind ?_ (fun _ => ?_))
      | exact ih0 _ _ _ _ _ _ _ _ _ _ _ _ _ _
      | exact ih1 _ _ _ _ _ _ _ _
      | exact ih2 _ _ _ _ _ _ _ _
      | exact letterbagref18_Inv.mono _ _
      | exact letterbagref18_Log.mono _ _
      | exact letterbagref18_Mul.mono _ _ _
      | exact letterbagref18_Pow.mono _ _ _
      | exact LeO.none _
      | refine LeO.ite ?_ ?_
      | refine LeO.bind ?_ (fun _ => ?_)
set_option maxHeartbeats 8000000 in
set_option maxRecDepth 100000 in
theorem letterbaglaw18_FieldTells.calls (k : Nat) (a0 : Int) (a1 : Int) (a2 : Int) (r : Bool) (w : World) (hT : Kd.C (Kd.int .u8) w (some ⟨0, 0, none⟩) 63 pwI) (h : letterbaglaw18_FieldTells.f k a0 a1 a2 = some r) :
    Calls Tryd.prog 6 #[.int .u8 a0, .int .u8 a1, .int .i64 a2] w fun e w' => e = .returned (.bool r) ∧ Below w.heap.size w w' := by
  have HRT := Aside0.mk hT
  clear hT
  have HB := Aside0.mk (Below.refl w.heap.size w)
  have H : ((field_Add.f a0 a1).bind fun bt367 => ((field_Mul.f a0 a1).bind fun bt369 => ((field_Inv.f a0).bind fun bt371 => ((field_Pow.f a0 a2).bind fun bt373 => ((field_Log.f a0).bind fun bt375 => (if a0 > 63 then (letterbaglaw18_FieldTells.j0 k a0 a1 a2 bt367.1 bt367.2 bt369.1 bt369.2 bt371.1 bt371.2 bt373.1 bt373.2 bt375.1 bt375.2 true) else (letterbaglaw18_FieldTells.j0 k a0 a1 a2 bt367.1 bt367.2 bt369.1 bt369.2 bt371.1 bt371.2 bt373.1 bt373.2 bt375.1 bt375.2 (decide (a1 > 63))))))))) = some r := h
  clear h
  replace H := Option.bind_eq_some_iff.mp H
  obtain ⟨⟨t367, t368⟩, A40, H⟩ := H
  replace H : ((field_Mul.f a0 a1).bind fun bt369 => ((field_Inv.f a0).bind fun bt371 => ((field_Pow.f a0 a2).bind fun bt373 => ((field_Log.f a0).bind fun bt375 => (if a0 > 63 then (letterbaglaw18_FieldTells.j0 k a0 a1 a2 t367 t368 bt369.1 bt369.2 bt371.1 bt371.2 bt373.1 bt373.2 bt375.1 bt375.2 true) else (letterbaglaw18_FieldTells.j0 k a0 a1 a2 t367 t368 bt369.1 bt369.2 bt371.1 bt371.2 bt373.1 bt373.2 bt375.1 bt375.2 (decide (a1 > 63)))))))) = some r := H
  have A4 := Aside0.mk A40
  clear A40
  replace H := Option.bind_eq_some_iff.mp H
  obtain ⟨⟨t369, t370⟩, A50, H⟩ := H
  replace H : ((field_Inv.f a0).bind fun bt371 => ((field_Pow.f a0 a2).bind fun bt373 => ((field_Log.f a0).bind fun bt375 => (if a0 > 63 then (letterbaglaw18_FieldTells.j0 k a0 a1 a2 t367 t368 t369 t370 bt371.1 bt371.2 bt373.1 bt373.2 bt375.1 bt375.2 true) else (letterbaglaw18_FieldTells.j0 k a0 a1 a2 t367 t368 t369 t370 bt371.1 bt371.2 bt373.1 bt373.2 bt375.1 bt375.2 (decide (a1 > 63))))))) = some r := H
  have A5 := Aside0.mk A50
  clear A50
  replace H := Option.bind_eq_some_iff.mp H
  obtain ⟨⟨t371, t372⟩, A60, H⟩ := H
  replace H : ((field_Pow.f a0 a2).bind fun bt373 => ((field_Log.f a0).bind fun bt375 => (if a0 > 63 then (letterbaglaw18_FieldTells.j0 k a0 a1 a2 t367 t368 t369 t370 t371 t372 bt373.1 bt373.2 bt375.1 bt375.2 true) else (letterbaglaw18_FieldTells.j0 k a0 a1 a2 t367 t368 t369 t370 t371 t372 bt373.1 bt373.2 bt375.1 bt375.2 (decide (a1 > 63)))))) = some r := H
  have A6 := Aside0.mk A60
  clear A60
  replace H := Option.bind_eq_some_iff.mp H
  obtain ⟨⟨t373, t374⟩, A70, H⟩ := H
  replace H : ((field_Log.f a0).bind fun bt375 => (if a0 > 63 then (letterbaglaw18_FieldTells.j0 k a0 a1 a2 t367 t368 t369 t370 t371 t372 t373 t374 bt375.1 bt375.2 true) else (letterbaglaw18_FieldTells.j0 k a0 a1 a2 t367 t368 t369 t370 t371 t372 t373 t374 bt375.1 bt375.2 (decide (a1 > 63))))) = some r := H
  have A7 := Aside0.mk A70
  clear A70
  replace H := Option.bind_eq_some_iff.mp H
  obtain ⟨⟨t375, t376⟩, A80, H⟩ := H
  replace H : (if a0 > 63 then (letterbaglaw18_FieldTells.j0 k a0 a1 a2 t367 t368 t369 t370 t371 t372 t373 t374 t375 t376 true) else (letterbaglaw18_FieldTells.j0 k a0 a1 a2 t367 t368 t369 t370 t371 t372 t373 t374 t375 t376 (decide (a1 > 63)))) = some r := H
  have A8 := Aside0.mk A80
  clear A80
  have HC9 := Aside0.mk H
  clear H
  go_enter Tryd.func6, Tryd.ntmps6
  go_upto_region 6 with (first | ((with_reducible refine gate_callee (f := 30) rfl ?_); refine goesL_ (some 23) rfl rfl Tryd.func30 (by kernel_rfl) rfl #[.int .u8 a0, .int .u8 a1] rfl (by (try simp only [List.map_toArray, List.map_cons, List.map_nil]); first | done | rfl | (simp only [List.length_drop, List.length_take]; rfl)) ?_; (with_reducible refine (field_Add.calls a0 a1 t367 t368 _ A4.out).mono ?_); rintro e w10 ⟨rfl, hb⟩; refine ⟨_, rfl, ?_⟩; have n0_ := Aside0.mk (below_step (by repeat (first | (with_reducible first | exact HB.out | apply below_alloc | apply pw_below_drewN | apply below_drew1) | exact HB.out)) hb); clear HB; have HB := n0_; clear n0_; (try clear hb); (try clear hb2); (try clear hk); (try clear hi)) | ((with_reducible refine gate_callee (f := 31) rfl ?_); refine goesL_ (some 29) rfl rfl Tryd.func31 (by kernel_rfl) rfl #[.int .u8 a0, .int .u8 a1] rfl (by (try simp only [List.map_toArray, List.map_cons, List.map_nil]); first | done | rfl | (simp only [List.length_drop, List.length_take]; rfl)) ?_; (with_reducible refine (field_Mul.calls a0 a1 t369 t370 _ ?side1 A5.out).mono ?_); (case side1 => repeat (first | exact (Kd.C_below HRT.out HB.out) | (with_reducible refine Kd.C_alloc ?_ _) | (with_reducible refine Kd.C_drewN ?_ _) | (with_reducible refine Kd.C_drew ?_))); rintro e w11 ⟨rfl, hb⟩; refine ⟨_, rfl, ?_⟩; have n0_ := Aside0.mk (below_step (by repeat (first | (with_reducible first | exact HB.out | apply below_alloc | apply pw_below_drewN | apply below_drew1) | exact HB.out)) hb); clear HB; have HB := n0_; clear n0_; (try clear hb); (try clear hb2); (try clear hk); (try clear hi)) | ((with_reducible refine gate_callee (f := 32) rfl ?_); refine goesL_ (some 34) rfl rfl Tryd.func32 (by kernel_rfl) rfl #[.int .u8 a0] rfl (by (try simp only [List.map_toArray, List.map_cons, List.map_nil]); first | done | rfl | (simp only [List.length_drop, List.length_take]; rfl)) ?_; (with_reducible refine (field_Inv.calls a0 t371 t372 _ ?side1 A6.out).mono ?_); (case side1 => repeat (first | exact (Kd.C_below HRT.out HB.out) | (with_reducible refine Kd.C_alloc ?_ _) | (with_reducible refine Kd.C_drewN ?_ _) | (with_reducible refine Kd.C_drew ?_))); rintro e w' ⟨rfl, ⟨nd, rfl⟩⟩; refine ⟨_, rfl, ?_⟩) | ((with_reducible refine gate_callee (f := 28) rfl ?_); refine goesL_ (some 40) rfl rfl Tryd.func28 (by kernel_rfl) rfl #[.int .u8 a0, .int .i64 a2] rfl (by (try simp only [List.map_toArray, List.map_cons, List.map_nil]); first | done | rfl | (simp only [List.length_drop, List.length_take]; rfl)) ?_; (with_reducible refine (field_Pow.calls a0 a2 t373 t374 _ ?side1 A7.out).mono ?_); (case side1 => repeat (first | exact (Kd.C_below HRT.out (by repeat (first | (with_reducible first | exact HB.out | apply below_alloc | apply pw_below_drewN | apply below_drew1) | exact HB.out))) | (with_reducible refine Kd.C_alloc ?_ _) | (with_reducible refine Kd.C_drewN ?_ _) | (with_reducible refine Kd.C_drew ?_))); rintro e w' ⟨rfl, ⟨nd, rfl⟩⟩; refine ⟨_, rfl, ?_⟩) | ((with_reducible refine gate_callee (f := 33) rfl ?_); refine goesL_ (some 45) rfl rfl Tryd.func33 (by kernel_rfl) rfl #[.int .u8 a0] rfl (by (try simp only [List.map_toArray, List.map_cons, List.map_nil]); first | done | rfl | (simp only [List.length_drop, List.length_take]; rfl)) ?_; (with_reducible refine (field_Log.calls a0 t375 t376 _ ?side1 A8.out).mono ?_); (case side1 => repeat (first | exact (Kd.C_below HRT.out (by repeat (first | (with_reducible first | exact HB.out | apply below_alloc | apply pw_below_drewN | apply below_drew1) | exact HB.out))) | (with_reducible refine Kd.C_alloc ?_ _) | (with_reducible refine Kd.C_drewN ?_ _) | (with_reducible refine Kd.C_drew ?_))); rintro e w' ⟨rfl, ⟨nd, rfl⟩⟩; refine ⟨_, rfl, ?_⟩))
  (try simp only [Act.put, List.setIfInBounds_toArray, List.set_cons_zero, List.set_cons_succ])
  go_cut [53] (fun v53 wc => ∃ (kq : Nat) (x53_8 : Bool), v53 = .bool x53_8 ∧ Aside0 (letterbaglaw18_FieldTells.j0 kq a0 a1 a2 t367 t368 t369 t370 t371 t372 t373 t374 t375 t376 x53_8 = some r) ∧ Aside0 (kq ≤ k) ∧ Aside0 (Below w.heap.size w wc))
  case first =>
    have H := HC9.out
    clear HC9
    by_cases c12 : a0 > 63
    · rw [if_pos c12] at H
      have c12b0 : decide (63 < a0) = true := decide_eq_true c12
      clear c12
      (first | rw [c12b0] | (simp only [i64_w, i32_w]; rw [c12b0]) | skip)
      have H' := Aside0.mk H
      clear H
      go_wp2
      go_meet
      case rel => exact ⟨_, (true), (by first | rfl | (simp; done) | (simp [*]; done)), H', ⟨by first | omega | exact Nat.le_refl _⟩, ⟨by repeat (first | (with_reducible first | exact HB.out | apply below_alloc | apply pw_below_drewN | apply below_drew1) | exact HB.out)⟩⟩
    · rw [if_neg c12] at H
      have c12b0 : decide (63 < a0) = false := decide_eq_false c12
      clear c12
      (first | rw [c12b0] | (simp only [i64_w, i32_w]; rw [c12b0]) | skip)
      have H' := Aside0.mk H
      clear H
      go_wp2
      go_meet
      case rel => exact ⟨_, (decide (a1 > 63)), (by first | rfl | (simp; done) | (simp [*]; done)), H', ⟨by first | omega | exact Nat.le_refl _⟩, ⟨by repeat (first | (with_reducible first | exact HB.out | apply below_alloc | apply pw_below_drewN | apply below_drew1) | exact HB.out)⟩⟩
  case rest =>
    clear HC9
    try clear c1
    try clear c2
    try clear p2
    try clear c3
    try clear c6
    try clear c12
    try clear c12b0
    obtain ⟨kq, x53_8, rfl, HA, HJ8, HB⟩ := hcut
    cases kq with
    | zero => exact absurd HA.out (by simp [letterbaglaw18_FieldTells.j0])
    | succ kj8 =>
      have H := HA.out
      clear HA
      simp only [letterbaglaw18_FieldTells.j0] at H
      have HC13 := Aside0.mk H
      clear H
      go_upto_if 53 with (fail)
      go_cut [] (fun wc => ∃ (kq : Nat), Aside0 (letterbaglaw18_FieldTells.j1 kq a0 a2 t371 t372 t373 t374 t375 t376 = some r) ∧ Aside0 (kq ≤ kj8) ∧ Aside0 (Below w.heap.size w wc))
      case first =>
        have H := HC13.out
        clear HC13
        by_cases c14 : x53_8 = true
        · subst c14
          have H1 : (if t368 = 2 then (if t370 = t368 then (if t367 = 0 then (if t369 = 0 then (letterbaglaw18_FieldTells.j1 kj8 a0 a2 t371 t372 t373 t374 t375 t376) else (some false)) else (some false)) else (some false)) else (some false)) = some r := by rw [if_pos rfl] at H; exact H
          clear H
          have H := H1
          clear H1
          by_cases c15 : t368 = 2
          · rw [if_pos c15] at H
            have c15b0 : (t368 == 2) = true := beq_iff_eq.mpr c15
            have c15b1 : (t368 != 2) = false := bne_eq_false_iff_eq.mpr c15
            clear c15
            (first | rw [c15b0] | (simp only [i64_w, i32_w]; rw [c15b0]) | skip)
            by_cases c16 : t370 = t368
            · rw [if_pos c16] at H
              have c16b0 : (t370 == t368) = true := beq_iff_eq.mpr c16
              have c16b1 : (t370 != t368) = false := bne_eq_false_iff_eq.mpr c16
              clear c16
              by_cases c17 : t367 = 0
              · rw [if_pos c17] at H
                have c17b0 : (t367 == 0) = true := beq_iff_eq.mpr c17
                have c17b1 : (t367 != 0) = false := bne_eq_false_iff_eq.mpr c17
                clear c17
                by_cases c18 : t369 = 0
                · rw [if_pos c18] at H
                  have c18b0 : (t369 == 0) = true := beq_iff_eq.mpr c18
                  have c18b1 : (t369 != 0) = false := bne_eq_false_iff_eq.mpr c18
                  clear c18
                  have H' := Aside0.mk H
                  clear H
                  go_wp2
                  go_meet
                  case rel => exact ⟨_, H', ⟨by have := HJ8.out; first | omega | exact Nat.le_refl _⟩, ⟨by repeat (first | (with_reducible first | exact HB.out | apply below_alloc | apply pw_below_drewN | apply below_drew1) | exact HB.out)⟩⟩
                · rw [if_neg c18] at H
                  have c18b0 : (t369 == 0) = false := beq_eq_false_iff_ne.mpr c18
                  have c18b1 : (t369 != 0) = true := bne_iff_ne.mpr c18
                  obtain rfl := Option.some.inj H
                  go_wp2
                  go_ret
                  exact ⟨by first | rfl | (simp [errW_none, errW_some] <;> rfl) | (simp [*, errW_none, errW_some] <;> rfl), by repeat (first | (with_reducible first | exact HB.out | apply below_alloc | apply pw_below_drewN | apply below_drew1) | exact HB.out)⟩
              · rw [if_neg c17] at H
                have c17b0 : (t367 == 0) = false := beq_eq_false_iff_ne.mpr c17
                have c17b1 : (t367 != 0) = true := bne_iff_ne.mpr c17
                obtain rfl := Option.some.inj H
                go_wp2
                go_ret
                exact ⟨by first | rfl | (simp [errW_none, errW_some] <;> rfl) | (simp [*, errW_none, errW_some] <;> rfl), by repeat (first | (with_reducible first | exact HB.out | apply below_alloc | apply pw_below_drewN | apply below_drew1) | exact HB.out)⟩
            · rw [if_neg c16] at H
              have c16b0 : (t370 == t368) = false := beq_eq_false_iff_ne.mpr c16
              have c16b1 : (t370 != t368) = true := bne_iff_ne.mpr c16
              obtain rfl := Option.some.inj H
              go_wp2
              go_ret
              exact ⟨by first | rfl | (simp [errW_none, errW_some] <;> rfl) | (simp [*, errW_none, errW_some] <;> rfl), by repeat (first | (with_reducible first | exact HB.out | apply below_alloc | apply pw_below_drewN | apply below_drew1) | exact HB.out)⟩
          · rw [if_neg c15] at H
            have c15b0 : (t368 == 2) = false := beq_eq_false_iff_ne.mpr c15
            have c15b1 : (t368 != 2) = true := bne_iff_ne.mpr c15
            (first | rw [c15b0] | (simp only [i64_w, i32_w]; rw [c15b0]) | skip)
            obtain rfl := Option.some.inj H
            go_wp2
            go_ret
            exact ⟨by first | rfl | (simp [errW_none, errW_some] <;> rfl) | (simp [*, errW_none, errW_some] <;> rfl), by repeat (first | (with_reducible first | exact HB.out | apply below_alloc | apply pw_below_drewN | apply below_drew1) | exact HB.out)⟩
        · replace c14 := Bool.eq_false_iff.mpr c14
          subst c14
          have H1 : (if t368 = 0 then (if t370 = t368 then (if t367 = (Go.bits .xor .u8 a0 a1) then ((letterbagref18_Mul.f kj8 a0 a1).bind fun t377 => (if t369 = t377 then (letterbaglaw18_FieldTells.j1 kj8 a0 a2 t371 t372 t373 t374 t375 t376) else (some false))) else (some false)) else (some false)) else (some false)) = some r := by rw [if_neg (show ¬ (false = true) by decide)] at H; exact H
          clear H
          have H := H1
          clear H1
          by_cases c19 : t368 = 0
          · rw [if_pos c19] at H
            have c19b0 : (t368 == 0) = true := beq_iff_eq.mpr c19
            have c19b1 : (t368 != 0) = false := bne_eq_false_iff_eq.mpr c19
            clear c19
            by_cases c20 : t370 = t368
            · rw [if_pos c20] at H
              have c20b0 : (t370 == t368) = true := beq_iff_eq.mpr c20
              have c20b1 : (t370 != t368) = false := bne_eq_false_iff_eq.mpr c20
              clear c20
              by_cases c21 : t367 = (Go.bits .xor .u8 a0 a1)
              · rw [if_pos c21] at H
                have c21b0 : (t367 == (Go.bits .xor .u8 a0 a1)) = true := beq_iff_eq.mpr c21
                have c21b1 : (t367 != (Go.bits .xor .u8 a0 a1)) = false := bne_eq_false_iff_eq.mpr c21
                clear c21
                replace H := Option.bind_eq_some_iff.mp H
                obtain ⟨t377, A220, H⟩ := H
                replace H : (if t369 = t377 then (letterbaglaw18_FieldTells.j1 kj8 a0 a2 t371 t372 t373 t374 t375 t376) else (some false)) = some r := H
                have A22 := Aside0.mk A220
                clear A220
                by_cases c23 : t369 = t377
                · rw [if_pos c23] at H
                  have c23b0 : (t369 == t377) = true := beq_iff_eq.mpr c23
                  have c23b1 : (t369 != t377) = false := bne_eq_false_iff_eq.mpr c23
                  clear c23
                  have H' := Aside0.mk H
                  clear H
                  go_wp2_with (first | (go_at_call 34; (with_reducible refine (letterbagref18_Mul.calls kj8 a0 a1 t377 _ A22.out).mono ?_); rintro e w' ⟨rfl, ⟨nd, rfl⟩⟩))
                  go_meet
                  case rel => exact ⟨_, H', ⟨by have := HJ8.out; first | omega | exact Nat.le_refl _⟩, ⟨by repeat (first | (with_reducible first | exact HB.out | apply below_alloc | apply pw_below_drewN | apply below_drew1) | exact HB.out)⟩⟩
                · rw [if_neg c23] at H
                  have c23b0 : (t369 == t377) = false := beq_eq_false_iff_ne.mpr c23
                  have c23b1 : (t369 != t377) = true := bne_iff_ne.mpr c23
                  obtain rfl := Option.some.inj H
                  go_wp2_with (first | (go_at_call 34; (with_reducible refine (letterbagref18_Mul.calls kj8 a0 a1 t377 _ A22.out).mono ?_); rintro e w' ⟨rfl, ⟨nd, rfl⟩⟩))
                  go_ret
                  exact ⟨by first | rfl | (simp [errW_none, errW_some] <;> rfl) | (simp [*, errW_none, errW_some] <;> rfl), by repeat (first | (with_reducible first | exact HB.out | apply below_alloc | apply pw_below_drewN | apply below_drew1) | exact HB.out)⟩
              · rw [if_neg c21] at H
                have c21b0 : (t367 == (Go.bits .xor .u8 a0 a1)) = false := beq_eq_false_iff_ne.mpr c21
                have c21b1 : (t367 != (Go.bits .xor .u8 a0 a1)) = true := bne_iff_ne.mpr c21
                obtain rfl := Option.some.inj H
                go_wp2
                go_ret
                exact ⟨by first | rfl | (simp [errW_none, errW_some] <;> rfl) | (simp [*, errW_none, errW_some] <;> rfl), by repeat (first | (with_reducible first | exact HB.out | apply below_alloc | apply pw_below_drewN | apply below_drew1) | exact HB.out)⟩
            · rw [if_neg c20] at H
              have c20b0 : (t370 == t368) = false := beq_eq_false_iff_ne.mpr c20
              have c20b1 : (t370 != t368) = true := bne_iff_ne.mpr c20
              obtain rfl := Option.some.inj H
              go_wp2
              go_ret
              exact ⟨by first | rfl | (simp [errW_none, errW_some] <;> rfl) | (simp [*, errW_none, errW_some] <;> rfl), by repeat (first | (with_reducible first | exact HB.out | apply below_alloc | apply pw_below_drewN | apply below_drew1) | exact HB.out)⟩
          · rw [if_neg c19] at H
            have c19b0 : (t368 == 0) = false := beq_eq_false_iff_ne.mpr c19
            have c19b1 : (t368 != 0) = true := bne_iff_ne.mpr c19
            obtain rfl := Option.some.inj H
            go_wp2
            go_ret
            exact ⟨by first | rfl | (simp [errW_none, errW_some] <;> rfl) | (simp [*, errW_none, errW_some] <;> rfl), by repeat (first | (with_reducible first | exact HB.out | apply below_alloc | apply pw_below_drewN | apply below_drew1) | exact HB.out)⟩
      case rest =>
        clear HC13
        try clear c1
        try clear c2
        try clear p2
        try clear c3
        try clear c6
        try clear c12
        try clear c12b0
        try clear c14
        try clear c15
        try clear c15b0
        try clear c15b1
        try clear c16
        try clear c16b0
        try clear c16b1
        try clear c17
        try clear c17b0
        try clear c17b1
        try clear c18
        try clear c18b0
        try clear c18b1
        try clear c19
        try clear c19b0
        try clear c19b1
        try clear c20
        try clear c20b0
        try clear c20b1
        try clear c21
        try clear c21b0
        try clear c21b1
        try clear c23
        try clear c23b0
        try clear c23b1
        try clear p2
        obtain ⟨kq, HA, HJ12, HB⟩ := hcut
        cases kq with
        | zero => exact absurd HA.out (by simp [letterbaglaw18_FieldTells.j1])
        | succ kj12 =>
          have H := HA.out
          clear HA
          simp only [letterbaglaw18_FieldTells.j1] at H
          by_cases c24 : a0 > 63
          · rw [if_pos c24] at H
            have c24b0 : decide (63 < a0) = true := decide_eq_true c24
            clear c24
            by_cases c25 : t372 = 2
            · rw [if_pos c25] at H
              have c25b0 : (t372 == 2) = true := beq_iff_eq.mpr c25
              have c25b1 : (t372 != 2) = false := bne_eq_false_iff_eq.mpr c25
              clear c25
              by_cases c26 : t374 = t372
              · rw [if_pos c26] at H
                have c26b0 : (t374 == t372) = true := beq_iff_eq.mpr c26
                have c26b1 : (t374 != t372) = false := bne_eq_false_iff_eq.mpr c26
                clear c26
                by_cases c27 : t376 = t372
                · rw [if_pos c27] at H
                  have c27b0 : (t376 == t372) = true := beq_iff_eq.mpr c27
                  have c27b1 : (t376 != t372) = false := bne_eq_false_iff_eq.mpr c27
                  clear c27
                  by_cases c28 : t371 = 0
                  · rw [if_pos c28] at H
                    have c28b0 : (t371 == 0) = true := beq_iff_eq.mpr c28
                    have c28b1 : (t371 != 0) = false := bne_eq_false_iff_eq.mpr c28
                    clear c28
                    by_cases c29 : t373 = 0
                    · rw [if_pos c29] at H
                      have c29b0 : (t373 == 0) = true := beq_iff_eq.mpr c29
                      have c29b1 : (t373 != 0) = false := bne_eq_false_iff_eq.mpr c29
                      clear c29
                      by_cases c30 : t375 = 0
                      · rw [if_pos c30] at H
                        have c30b0 : (t375 == 0) = true := beq_iff_eq.mpr c30
                        have c30b1 : (t375 != 0) = false := bne_eq_false_iff_eq.mpr c30
                        clear c30
                        replace H := Option.bind_eq_some_iff.mp H
                        obtain ⟨t378, A310, H⟩ := H
                        replace H : (some t378) = some r := H
                        have A31 := Aside0.mk A310
                        clear A310
                        obtain rfl := Option.some.inj H
                        go_wp2_with (first | (go_at_call 11; (with_reducible refine (letterbaglaw18_awake.calls  t378 _ ?side1 A31.out).mono ?_); (case side1 => repeat (first | exact (Kd.C_below HRT.out HB.out) | (with_reducible refine Kd.C_alloc ?_ _) | (with_reducible refine Kd.C_drewN ?_ _) | (with_reducible refine Kd.C_drew ?_))); rintro e w32 ⟨rfl, hb⟩; have n0_ := Aside0.mk (below_step (by repeat (first | (with_reducible first | exact HB.out | apply below_alloc | apply pw_below_drewN | apply below_drew1) | exact HB.out)) hb); clear HB; have HB := n0_; clear n0_; (try clear hb); (try clear hb2); (try clear hk); (try clear hi)))
                        go_ret
                        exact ⟨by first | rfl | (simp [errW_none, errW_some] <;> rfl) | (simp [*, errW_none, errW_some] <;> rfl), by repeat (first | (with_reducible first | exact HB.out | apply below_alloc | apply pw_below_drewN | apply below_drew1) | exact HB.out)⟩
                      · rw [if_neg c30] at H
                        have c30b0 : (t375 == 0) = false := beq_eq_false_iff_ne.mpr c30
                        have c30b1 : (t375 != 0) = true := bne_iff_ne.mpr c30
                        obtain rfl := Option.some.inj H
                        go_wp2
                        go_ret
                        exact ⟨by first | rfl | (simp [errW_none, errW_some] <;> rfl) | (simp [*, errW_none, errW_some] <;> rfl), by repeat (first | (with_reducible first | exact HB.out | apply below_alloc | apply pw_below_drewN | apply below_drew1) | exact HB.out)⟩
                    · rw [if_neg c29] at H
                      have c29b0 : (t373 == 0) = false := beq_eq_false_iff_ne.mpr c29
                      have c29b1 : (t373 != 0) = true := bne_iff_ne.mpr c29
                      obtain rfl := Option.some.inj H
                      go_wp2
                      go_ret
                      exact ⟨by first | rfl | (simp [errW_none, errW_some] <;> rfl) | (simp [*, errW_none, errW_some] <;> rfl), by repeat (first | (with_reducible first | exact HB.out | apply below_alloc | apply pw_below_drewN | apply below_drew1) | exact HB.out)⟩
                  · rw [if_neg c28] at H
                    have c28b0 : (t371 == 0) = false := beq_eq_false_iff_ne.mpr c28
                    have c28b1 : (t371 != 0) = true := bne_iff_ne.mpr c28
                    obtain rfl := Option.some.inj H
                    go_wp2
                    go_ret
                    exact ⟨by first | rfl | (simp [errW_none, errW_some] <;> rfl) | (simp [*, errW_none, errW_some] <;> rfl), by repeat (first | (with_reducible first | exact HB.out | apply below_alloc | apply pw_below_drewN | apply below_drew1) | exact HB.out)⟩
                · rw [if_neg c27] at H
                  have c27b0 : (t376 == t372) = false := beq_eq_false_iff_ne.mpr c27
                  have c27b1 : (t376 != t372) = true := bne_iff_ne.mpr c27
                  obtain rfl := Option.some.inj H
                  go_wp2
                  go_ret
                  exact ⟨by first | rfl | (simp [errW_none, errW_some] <;> rfl) | (simp [*, errW_none, errW_some] <;> rfl), by repeat (first | (with_reducible first | exact HB.out | apply below_alloc | apply pw_below_drewN | apply below_drew1) | exact HB.out)⟩
              · rw [if_neg c26] at H
                have c26b0 : (t374 == t372) = false := beq_eq_false_iff_ne.mpr c26
                have c26b1 : (t374 != t372) = true := bne_iff_ne.mpr c26
                obtain rfl := Option.some.inj H
                go_wp2
                go_ret
                exact ⟨by first | rfl | (simp [errW_none, errW_some] <;> rfl) | (simp [*, errW_none, errW_some] <;> rfl), by repeat (first | (with_reducible first | exact HB.out | apply below_alloc | apply pw_below_drewN | apply below_drew1) | exact HB.out)⟩
            · rw [if_neg c25] at H
              have c25b0 : (t372 == 2) = false := beq_eq_false_iff_ne.mpr c25
              have c25b1 : (t372 != 2) = true := bne_iff_ne.mpr c25
              obtain rfl := Option.some.inj H
              go_wp2
              go_ret
              exact ⟨by first | rfl | (simp [errW_none, errW_some] <;> rfl) | (simp [*, errW_none, errW_some] <;> rfl), by repeat (first | (with_reducible first | exact HB.out | apply below_alloc | apply pw_below_drewN | apply below_drew1) | exact HB.out)⟩
          · rw [if_neg c24] at H
            have c24b0 : decide (63 < a0) = false := decide_eq_false c24
            clear c24
            by_cases c33 : a0 = 0
            · rw [if_pos c33] at H
              have c33b0 : (a0 == 0) = true := beq_iff_eq.mpr c33
              have c33b1 : (a0 != 0) = false := bne_eq_false_iff_eq.mpr c33
              clear c33
              by_cases c34 : a2 = 0
              · rw [if_pos c34] at H
                have c34b0 : (a2 == 0) = true := beq_iff_eq.mpr c34
                have c34b1 : (a2 != 0) = false := bne_eq_false_iff_eq.mpr c34
                clear c34
                by_cases c35 : a2 < 0
                · rw [if_pos c35] at H
                  have c35b0 : decide (a2 < 0) = true := decide_eq_true c35
                  clear c35
                  by_cases c36 : t372 = 6
                  · rw [if_pos c36] at H
                    have c36b0 : (t372 == 6) = true := beq_iff_eq.mpr c36
                    have c36b1 : (t372 != 6) = false := bne_eq_false_iff_eq.mpr c36
                    clear c36
                    by_cases c37 : t376 = t372
                    · rw [if_pos c37] at H
                      have c37b0 : (t376 == t372) = true := beq_iff_eq.mpr c37
                      have c37b1 : (t376 != t372) = false := bne_eq_false_iff_eq.mpr c37
                      clear c37
                      by_cases c38 : t374 = 6
                      · rw [if_pos c38] at H
                        have c38b0 : (t374 == 6) = true := beq_iff_eq.mpr c38
                        have c38b1 : (t374 != 6) = false := bne_eq_false_iff_eq.mpr c38
                        clear c38
                        by_cases c39 : t371 = 0
                        · rw [if_pos c39] at H
                          have c39b0 : (t371 == 0) = true := beq_iff_eq.mpr c39
                          have c39b1 : (t371 != 0) = false := bne_eq_false_iff_eq.mpr c39
                          clear c39
                          by_cases c40 : t373 = 1
                          · rw [if_pos c40] at H
                            have c40b0 : (t373 == 1) = true := beq_iff_eq.mpr c40
                            have c40b1 : (t373 != 1) = false := bne_eq_false_iff_eq.mpr c40
                            clear c40
                            by_cases c41 : t375 = 0
                            · rw [if_pos c41] at H
                              have c41b0 : (t375 == 0) = true := beq_iff_eq.mpr c41
                              have c41b1 : (t375 != 0) = false := bne_eq_false_iff_eq.mpr c41
                              clear c41
                              replace H := Option.bind_eq_some_iff.mp H
                              obtain ⟨t379, A420, H⟩ := H
                              replace H : (some t379) = some r := H
                              have A42 := Aside0.mk A420
                              clear A420
                              obtain rfl := Option.some.inj H
                              go_wp2_with (first | (go_at_call 11; (with_reducible refine (letterbaglaw18_awake.calls  t379 _ ?side1 A42.out).mono ?_); (case side1 => repeat (first | exact (Kd.C_below HRT.out HB.out) | (with_reducible refine Kd.C_alloc ?_ _) | (with_reducible refine Kd.C_drewN ?_ _) | (with_reducible refine Kd.C_drew ?_))); rintro e w43 ⟨rfl, hb⟩; have n0_ := Aside0.mk (below_step (by repeat (first | (with_reducible first | exact HB.out | apply below_alloc | apply pw_below_drewN | apply below_drew1) | exact HB.out)) hb); clear HB; have HB := n0_; clear n0_; (try clear hb); (try clear hb2); (try clear hk); (try clear hi)))
                              go_ret
                              exact ⟨by first | rfl | (simp [errW_none, errW_some] <;> rfl) | (simp [*, errW_none, errW_some] <;> rfl), by repeat (first | (with_reducible first | exact HB.out | apply below_alloc | apply pw_below_drewN | apply below_drew1) | exact HB.out)⟩
                            · rw [if_neg c41] at H
                              have c41b0 : (t375 == 0) = false := beq_eq_false_iff_ne.mpr c41
                              have c41b1 : (t375 != 0) = true := bne_iff_ne.mpr c41
                              obtain rfl := Option.some.inj H
                              go_wp2
                              go_ret
                              exact ⟨by first | rfl | (simp [errW_none, errW_some] <;> rfl) | (simp [*, errW_none, errW_some] <;> rfl), by repeat (first | (with_reducible first | exact HB.out | apply below_alloc | apply pw_below_drewN | apply below_drew1) | exact HB.out)⟩
                          · rw [if_neg c40] at H
                            have c40b0 : (t373 == 1) = false := beq_eq_false_iff_ne.mpr c40
                            have c40b1 : (t373 != 1) = true := bne_iff_ne.mpr c40
                            obtain rfl := Option.some.inj H
                            go_wp2
                            go_ret
                            exact ⟨by first | rfl | (simp [errW_none, errW_some] <;> rfl) | (simp [*, errW_none, errW_some] <;> rfl), by repeat (first | (with_reducible first | exact HB.out | apply below_alloc | apply pw_below_drewN | apply below_drew1) | exact HB.out)⟩
                        · rw [if_neg c39] at H
                          have c39b0 : (t371 == 0) = false := beq_eq_false_iff_ne.mpr c39
                          have c39b1 : (t371 != 0) = true := bne_iff_ne.mpr c39
                          obtain rfl := Option.some.inj H
                          go_wp2
                          go_ret
                          exact ⟨by first | rfl | (simp [errW_none, errW_some] <;> rfl) | (simp [*, errW_none, errW_some] <;> rfl), by repeat (first | (with_reducible first | exact HB.out | apply below_alloc | apply pw_below_drewN | apply below_drew1) | exact HB.out)⟩
                      · rw [if_neg c38] at H
                        have c38b0 : (t374 == 6) = false := beq_eq_false_iff_ne.mpr c38
                        have c38b1 : (t374 != 6) = true := bne_iff_ne.mpr c38
                        obtain rfl := Option.some.inj H
                        go_wp2
                        go_ret
                        exact ⟨by first | rfl | (simp [errW_none, errW_some] <;> rfl) | (simp [*, errW_none, errW_some] <;> rfl), by repeat (first | (with_reducible first | exact HB.out | apply below_alloc | apply pw_below_drewN | apply below_drew1) | exact HB.out)⟩
                    · rw [if_neg c37] at H
                      have c37b0 : (t376 == t372) = false := beq_eq_false_iff_ne.mpr c37
                      have c37b1 : (t376 != t372) = true := bne_iff_ne.mpr c37
                      obtain rfl := Option.some.inj H
                      go_wp2
                      go_ret
                      exact ⟨by first | rfl | (simp [errW_none, errW_some] <;> rfl) | (simp [*, errW_none, errW_some] <;> rfl), by repeat (first | (with_reducible first | exact HB.out | apply below_alloc | apply pw_below_drewN | apply below_drew1) | exact HB.out)⟩
                  · rw [if_neg c36] at H
                    have c36b0 : (t372 == 6) = false := beq_eq_false_iff_ne.mpr c36
                    have c36b1 : (t372 != 6) = true := bne_iff_ne.mpr c36
                    obtain rfl := Option.some.inj H
                    go_wp2
                    go_ret
                    exact ⟨by first | rfl | (simp [errW_none, errW_some] <;> rfl) | (simp [*, errW_none, errW_some] <;> rfl), by repeat (first | (with_reducible first | exact HB.out | apply below_alloc | apply pw_below_drewN | apply below_drew1) | exact HB.out)⟩
                · rw [if_neg c35] at H
                  have c35b0 : decide (a2 < 0) = false := decide_eq_false c35
                  clear c35
                  by_cases c44 : t372 = 6
                  · rw [if_pos c44] at H
                    have c44b0 : (t372 == 6) = true := beq_iff_eq.mpr c44
                    have c44b1 : (t372 != 6) = false := bne_eq_false_iff_eq.mpr c44
                    clear c44
                    by_cases c45 : t376 = t372
                    · rw [if_pos c45] at H
                      have c45b0 : (t376 == t372) = true := beq_iff_eq.mpr c45
                      have c45b1 : (t376 != t372) = false := bne_eq_false_iff_eq.mpr c45
                      clear c45
                      by_cases c46 : t374 = 0
                      · rw [if_pos c46] at H
                        have c46b0 : (t374 == 0) = true := beq_iff_eq.mpr c46
                        have c46b1 : (t374 != 0) = false := bne_eq_false_iff_eq.mpr c46
                        clear c46
                        by_cases c47 : t371 = 0
                        · rw [if_pos c47] at H
                          have c47b0 : (t371 == 0) = true := beq_iff_eq.mpr c47
                          have c47b1 : (t371 != 0) = false := bne_eq_false_iff_eq.mpr c47
                          clear c47
                          by_cases c48 : t373 = 1
                          · rw [if_pos c48] at H
                            have c48b0 : (t373 == 1) = true := beq_iff_eq.mpr c48
                            have c48b1 : (t373 != 1) = false := bne_eq_false_iff_eq.mpr c48
                            clear c48
                            by_cases c49 : t375 = 0
                            · rw [if_pos c49] at H
                              have c49b0 : (t375 == 0) = true := beq_iff_eq.mpr c49
                              have c49b1 : (t375 != 0) = false := bne_eq_false_iff_eq.mpr c49
                              clear c49
                              replace H := Option.bind_eq_some_iff.mp H
                              obtain ⟨t380, A500, H⟩ := H
                              replace H : (some t380) = some r := H
                              have A50 := Aside0.mk A500
                              clear A500
                              obtain rfl := Option.some.inj H
                              go_wp2_with (first | (go_at_call 11; (with_reducible refine (letterbaglaw18_awake.calls  t380 _ ?side1 A50.out).mono ?_); (case side1 => repeat (first | exact (Kd.C_below HRT.out HB.out) | (with_reducible refine Kd.C_alloc ?_ _) | (with_reducible refine Kd.C_drewN ?_ _) | (with_reducible refine Kd.C_drew ?_))); rintro e w51 ⟨rfl, hb⟩; have n0_ := Aside0.mk (below_step (by repeat (first | (with_reducible first | exact HB.out | apply below_alloc | apply pw_below_drewN | apply below_drew1) | exact HB.out)) hb); clear HB; have HB := n0_; clear n0_; (try clear hb); (try clear hb2); (try clear hk); (try clear hi)))
                              go_ret
                              exact ⟨by first | rfl | (simp [errW_none, errW_some] <;> rfl) | (simp [*, errW_none, errW_some] <;> rfl), by repeat (first | (with_reducible first | exact HB.out | apply below_alloc | apply pw_below_drewN | apply below_drew1) | exact HB.out)⟩
                            · rw [if_neg c49] at H
                              have c49b0 : (t375 == 0) = false := beq_eq_false_iff_ne.mpr c49
                              have c49b1 : (t375 != 0) = true := bne_iff_ne.mpr c49
                              obtain rfl := Option.some.inj H
                              go_wp2
                              go_ret
                              exact ⟨by first | rfl | (simp [errW_none, errW_some] <;> rfl) | (simp [*, errW_none, errW_some] <;> rfl), by repeat (first | (with_reducible first | exact HB.out | apply below_alloc | apply pw_below_drewN | apply below_drew1) | exact HB.out)⟩
                          · rw [if_neg c48] at H
                            have c48b0 : (t373 == 1) = false := beq_eq_false_iff_ne.mpr c48
                            have c48b1 : (t373 != 1) = true := bne_iff_ne.mpr c48
                            obtain rfl := Option.some.inj H
                            go_wp2
                            go_ret
                            exact ⟨by first | rfl | (simp [errW_none, errW_some] <;> rfl) | (simp [*, errW_none, errW_some] <;> rfl), by repeat (first | (with_reducible first | exact HB.out | apply below_alloc | apply pw_below_drewN | apply below_drew1) | exact HB.out)⟩
                        · rw [if_neg c47] at H
                          have c47b0 : (t371 == 0) = false := beq_eq_false_iff_ne.mpr c47
                          have c47b1 : (t371 != 0) = true := bne_iff_ne.mpr c47
                          obtain rfl := Option.some.inj H
                          go_wp2
                          go_ret
                          exact ⟨by first | rfl | (simp [errW_none, errW_some] <;> rfl) | (simp [*, errW_none, errW_some] <;> rfl), by repeat (first | (with_reducible first | exact HB.out | apply below_alloc | apply pw_below_drewN | apply below_drew1) | exact HB.out)⟩
                      · rw [if_neg c46] at H
                        have c46b0 : (t374 == 0) = false := beq_eq_false_iff_ne.mpr c46
                        have c46b1 : (t374 != 0) = true := bne_iff_ne.mpr c46
                        obtain rfl := Option.some.inj H
                        go_wp2
                        go_ret
                        exact ⟨by first | rfl | (simp [errW_none, errW_some] <;> rfl) | (simp [*, errW_none, errW_some] <;> rfl), by repeat (first | (with_reducible first | exact HB.out | apply below_alloc | apply pw_below_drewN | apply below_drew1) | exact HB.out)⟩
                    · rw [if_neg c45] at H
                      have c45b0 : (t376 == t372) = false := beq_eq_false_iff_ne.mpr c45
                      have c45b1 : (t376 != t372) = true := bne_iff_ne.mpr c45
                      obtain rfl := Option.some.inj H
                      go_wp2
                      go_ret
                      exact ⟨by first | rfl | (simp [errW_none, errW_some] <;> rfl) | (simp [*, errW_none, errW_some] <;> rfl), by repeat (first | (with_reducible first | exact HB.out | apply below_alloc | apply pw_below_drewN | apply below_drew1) | exact HB.out)⟩
                  · rw [if_neg c44] at H
                    have c44b0 : (t372 == 6) = false := beq_eq_false_iff_ne.mpr c44
                    have c44b1 : (t372 != 6) = true := bne_iff_ne.mpr c44
                    obtain rfl := Option.some.inj H
                    go_wp2
                    go_ret
                    exact ⟨by first | rfl | (simp [errW_none, errW_some] <;> rfl) | (simp [*, errW_none, errW_some] <;> rfl), by repeat (first | (with_reducible first | exact HB.out | apply below_alloc | apply pw_below_drewN | apply below_drew1) | exact HB.out)⟩
              · rw [if_neg c34] at H
                have c34b0 : (a2 == 0) = false := beq_eq_false_iff_ne.mpr c34
                have c34b1 : (a2 != 0) = true := bne_iff_ne.mpr c34
                by_cases c52 : a2 < 0
                · rw [if_pos c52] at H
                  have c52b0 : decide (a2 < 0) = true := decide_eq_true c52
                  clear c52
                  by_cases c53 : t372 = 6
                  · rw [if_pos c53] at H
                    have c53b0 : (t372 == 6) = true := beq_iff_eq.mpr c53
                    have c53b1 : (t372 != 6) = false := bne_eq_false_iff_eq.mpr c53
                    clear c53
                    by_cases c54 : t376 = t372
                    · rw [if_pos c54] at H
                      have c54b0 : (t376 == t372) = true := beq_iff_eq.mpr c54
                      have c54b1 : (t376 != t372) = false := bne_eq_false_iff_eq.mpr c54
                      clear c54
                      by_cases c55 : t374 = 6
                      · rw [if_pos c55] at H
                        have c55b0 : (t374 == 6) = true := beq_iff_eq.mpr c55
                        have c55b1 : (t374 != 6) = false := bne_eq_false_iff_eq.mpr c55
                        clear c55
                        by_cases c56 : t371 = 0
                        · rw [if_pos c56] at H
                          have c56b0 : (t371 == 0) = true := beq_iff_eq.mpr c56
                          have c56b1 : (t371 != 0) = false := bne_eq_false_iff_eq.mpr c56
                          clear c56
                          by_cases c57 : t373 = 0
                          · rw [if_pos c57] at H
                            have c57b0 : (t373 == 0) = true := beq_iff_eq.mpr c57
                            have c57b1 : (t373 != 0) = false := bne_eq_false_iff_eq.mpr c57
                            clear c57
                            by_cases c58 : t375 = 0
                            · rw [if_pos c58] at H
                              have c58b0 : (t375 == 0) = true := beq_iff_eq.mpr c58
                              have c58b1 : (t375 != 0) = false := bne_eq_false_iff_eq.mpr c58
                              clear c58
                              replace H := Option.bind_eq_some_iff.mp H
                              obtain ⟨t381, A590, H⟩ := H
                              replace H : (some t381) = some r := H
                              have A59 := Aside0.mk A590
                              clear A590
                              obtain rfl := Option.some.inj H
                              go_wp2_with (first | (go_at_call 11; (with_reducible refine (letterbaglaw18_awake.calls  t381 _ ?side1 A59.out).mono ?_); (case side1 => repeat (first | exact (Kd.C_below HRT.out HB.out) | (with_reducible refine Kd.C_alloc ?_ _) | (with_reducible refine Kd.C_drewN ?_ _) | (with_reducible refine Kd.C_drew ?_))); rintro e w60 ⟨rfl, hb⟩; have n0_ := Aside0.mk (below_step (by repeat (first | (with_reducible first | exact HB.out | apply below_alloc | apply pw_below_drewN | apply below_drew1) | exact HB.out)) hb); clear HB; have HB := n0_; clear n0_; (try clear hb); (try clear hb2); (try clear hk); (try clear hi)))
                              go_ret
                              exact ⟨by first | rfl | (simp [errW_none, errW_some] <;> rfl) | (simp [*, errW_none, errW_some] <;> rfl), by repeat (first | (with_reducible first | exact HB.out | apply below_alloc | apply pw_below_drewN | apply below_drew1) | exact HB.out)⟩
                            · rw [if_neg c58] at H
                              have c58b0 : (t375 == 0) = false := beq_eq_false_iff_ne.mpr c58
                              have c58b1 : (t375 != 0) = true := bne_iff_ne.mpr c58
                              obtain rfl := Option.some.inj H
                              go_wp2
                              go_ret
                              exact ⟨by first | rfl | (simp [errW_none, errW_some] <;> rfl) | (simp [*, errW_none, errW_some] <;> rfl), by repeat (first | (with_reducible first | exact HB.out | apply below_alloc | apply pw_below_drewN | apply below_drew1) | exact HB.out)⟩
                          · rw [if_neg c57] at H
                            have c57b0 : (t373 == 0) = false := beq_eq_false_iff_ne.mpr c57
                            have c57b1 : (t373 != 0) = true := bne_iff_ne.mpr c57
                            obtain rfl := Option.some.inj H
                            go_wp2
                            go_ret
                            exact ⟨by first | rfl | (simp [errW_none, errW_some] <;> rfl) | (simp [*, errW_none, errW_some] <;> rfl), by repeat (first | (with_reducible first | exact HB.out | apply below_alloc | apply pw_below_drewN | apply below_drew1) | exact HB.out)⟩
                        · rw [if_neg c56] at H
                          have c56b0 : (t371 == 0) = false := beq_eq_false_iff_ne.mpr c56
                          have c56b1 : (t371 != 0) = true := bne_iff_ne.mpr c56
                          obtain rfl := Option.some.inj H
                          go_wp2
                          go_ret
                          exact ⟨by first | rfl | (simp [errW_none, errW_some] <;> rfl) | (simp [*, errW_none, errW_some] <;> rfl), by repeat (first | (with_reducible first | exact HB.out | apply below_alloc | apply pw_below_drewN | apply below_drew1) | exact HB.out)⟩
                      · rw [if_neg c55] at H
                        have c55b0 : (t374 == 6) = false := beq_eq_false_iff_ne.mpr c55
                        have c55b1 : (t374 != 6) = true := bne_iff_ne.mpr c55
                        obtain rfl := Option.some.inj H
                        go_wp2
                        go_ret
                        exact ⟨by first | rfl | (simp [errW_none, errW_some] <;> rfl) | (simp [*, errW_none, errW_some] <;> rfl), by repeat (first | (with_reducible first | exact HB.out | apply below_alloc | apply pw_below_drewN | apply below_drew1) | exact HB.out)⟩
                    · rw [if_neg c54] at H
                      have c54b0 : (t376 == t372) = false := beq_eq_false_iff_ne.mpr c54
                      have c54b1 : (t376 != t372) = true := bne_iff_ne.mpr c54
                      obtain rfl := Option.some.inj H
                      go_wp2
                      go_ret
                      exact ⟨by first | rfl | (simp [errW_none, errW_some] <;> rfl) | (simp [*, errW_none, errW_some] <;> rfl), by repeat (first | (with_reducible first | exact HB.out | apply below_alloc | apply pw_below_drewN | apply below_drew1) | exact HB.out)⟩
                  · rw [if_neg c53] at H
                    have c53b0 : (t372 == 6) = false := beq_eq_false_iff_ne.mpr c53
                    have c53b1 : (t372 != 6) = true := bne_iff_ne.mpr c53
                    obtain rfl := Option.some.inj H
                    go_wp2
                    go_ret
                    exact ⟨by first | rfl | (simp [errW_none, errW_some] <;> rfl) | (simp [*, errW_none, errW_some] <;> rfl), by repeat (first | (with_reducible first | exact HB.out | apply below_alloc | apply pw_below_drewN | apply below_drew1) | exact HB.out)⟩
                · rw [if_neg c52] at H
                  have c52b0 : decide (a2 < 0) = false := decide_eq_false c52
                  clear c52
                  by_cases c61 : t372 = 6
                  · rw [if_pos c61] at H
                    have c61b0 : (t372 == 6) = true := beq_iff_eq.mpr c61
                    have c61b1 : (t372 != 6) = false := bne_eq_false_iff_eq.mpr c61
                    clear c61
                    by_cases c62 : t376 = t372
                    · rw [if_pos c62] at H
                      have c62b0 : (t376 == t372) = true := beq_iff_eq.mpr c62
                      have c62b1 : (t376 != t372) = false := bne_eq_false_iff_eq.mpr c62
                      clear c62
                      by_cases c63 : t374 = 0
                      · rw [if_pos c63] at H
                        have c63b0 : (t374 == 0) = true := beq_iff_eq.mpr c63
                        have c63b1 : (t374 != 0) = false := bne_eq_false_iff_eq.mpr c63
                        clear c63
                        by_cases c64 : t371 = 0
                        · rw [if_pos c64] at H
                          have c64b0 : (t371 == 0) = true := beq_iff_eq.mpr c64
                          have c64b1 : (t371 != 0) = false := bne_eq_false_iff_eq.mpr c64
                          clear c64
                          by_cases c65 : t373 = 0
                          · rw [if_pos c65] at H
                            have c65b0 : (t373 == 0) = true := beq_iff_eq.mpr c65
                            have c65b1 : (t373 != 0) = false := bne_eq_false_iff_eq.mpr c65
                            clear c65
                            by_cases c66 : t375 = 0
                            · rw [if_pos c66] at H
                              have c66b0 : (t375 == 0) = true := beq_iff_eq.mpr c66
                              have c66b1 : (t375 != 0) = false := bne_eq_false_iff_eq.mpr c66
                              clear c66
                              replace H := Option.bind_eq_some_iff.mp H
                              obtain ⟨t382, A670, H⟩ := H
                              replace H : (some t382) = some r := H
                              have A67 := Aside0.mk A670
                              clear A670
                              obtain rfl := Option.some.inj H
                              go_wp2_with (first | (go_at_call 11; (with_reducible refine (letterbaglaw18_awake.calls  t382 _ ?side1 A67.out).mono ?_); (case side1 => repeat (first | exact (Kd.C_below HRT.out HB.out) | (with_reducible refine Kd.C_alloc ?_ _) | (with_reducible refine Kd.C_drewN ?_ _) | (with_reducible refine Kd.C_drew ?_))); rintro e w68 ⟨rfl, hb⟩; have n0_ := Aside0.mk (below_step (by repeat (first | (with_reducible first | exact HB.out | apply below_alloc | apply pw_below_drewN | apply below_drew1) | exact HB.out)) hb); clear HB; have HB := n0_; clear n0_; (try clear hb); (try clear hb2); (try clear hk); (try clear hi)))
                              go_ret
                              exact ⟨by first | rfl | (simp [errW_none, errW_some] <;> rfl) | (simp [*, errW_none, errW_some] <;> rfl), by repeat (first | (with_reducible first | exact HB.out | apply below_alloc | apply pw_below_drewN | apply below_drew1) | exact HB.out)⟩
                            · rw [if_neg c66] at H
                              have c66b0 : (t375 == 0) = false := beq_eq_false_iff_ne.mpr c66
                              have c66b1 : (t375 != 0) = true := bne_iff_ne.mpr c66
                              obtain rfl := Option.some.inj H
                              go_wp2
                              go_ret
                              exact ⟨by first | rfl | (simp [errW_none, errW_some] <;> rfl) | (simp [*, errW_none, errW_some] <;> rfl), by repeat (first | (with_reducible first | exact HB.out | apply below_alloc | apply pw_below_drewN | apply below_drew1) | exact HB.out)⟩
                          · rw [if_neg c65] at H
                            have c65b0 : (t373 == 0) = false := beq_eq_false_iff_ne.mpr c65
                            have c65b1 : (t373 != 0) = true := bne_iff_ne.mpr c65
                            obtain rfl := Option.some.inj H
                            go_wp2
                            go_ret
                            exact ⟨by first | rfl | (simp [errW_none, errW_some] <;> rfl) | (simp [*, errW_none, errW_some] <;> rfl), by repeat (first | (with_reducible first | exact HB.out | apply below_alloc | apply pw_below_drewN | apply below_drew1) | exact HB.out)⟩
                        · rw [if_neg c64] at H
                          have c64b0 : (t371 == 0) = false := beq_eq_false_iff_ne.mpr c64
                          have c64b1 : (t371 != 0) = true := bne_iff_ne.mpr c64
                          obtain rfl := Option.some.inj H
                          go_wp2
                          go_ret
                          exact ⟨by first | rfl | (simp [errW_none, errW_some] <;> rfl) | (simp [*, errW_none, errW_some] <;> rfl), by repeat (first | (with_reducible first | exact HB.out | apply below_alloc | apply pw_below_drewN | apply below_drew1) | exact HB.out)⟩
                      · rw [if_neg c63] at H
                        have c63b0 : (t374 == 0) = false := beq_eq_false_iff_ne.mpr c63
                        have c63b1 : (t374 != 0) = true := bne_iff_ne.mpr c63
                        obtain rfl := Option.some.inj H
                        go_wp2
                        go_ret
                        exact ⟨by first | rfl | (simp [errW_none, errW_some] <;> rfl) | (simp [*, errW_none, errW_some] <;> rfl), by repeat (first | (with_reducible first | exact HB.out | apply below_alloc | apply pw_below_drewN | apply below_drew1) | exact HB.out)⟩
                    · rw [if_neg c62] at H
                      have c62b0 : (t376 == t372) = false := beq_eq_false_iff_ne.mpr c62
                      have c62b1 : (t376 != t372) = true := bne_iff_ne.mpr c62
                      obtain rfl := Option.some.inj H
                      go_wp2
                      go_ret
                      exact ⟨by first | rfl | (simp [errW_none, errW_some] <;> rfl) | (simp [*, errW_none, errW_some] <;> rfl), by repeat (first | (with_reducible first | exact HB.out | apply below_alloc | apply pw_below_drewN | apply below_drew1) | exact HB.out)⟩
                  · rw [if_neg c61] at H
                    have c61b0 : (t372 == 6) = false := beq_eq_false_iff_ne.mpr c61
                    have c61b1 : (t372 != 6) = true := bne_iff_ne.mpr c61
                    obtain rfl := Option.some.inj H
                    go_wp2
                    go_ret
                    exact ⟨by first | rfl | (simp [errW_none, errW_some] <;> rfl) | (simp [*, errW_none, errW_some] <;> rfl), by repeat (first | (with_reducible first | exact HB.out | apply below_alloc | apply pw_below_drewN | apply below_drew1) | exact HB.out)⟩
            · rw [if_neg c33] at H
              have c33b0 : (a0 == 0) = false := beq_eq_false_iff_ne.mpr c33
              have c33b1 : (a0 != 0) = true := bne_iff_ne.mpr c33
              have HC69 := Aside0.mk H
              clear H
              go_upto_if 158 with (fail)
              go_cut [19] (fun v19 wc => ∃ (kq : Nat) (x19_68 : Int), v19 = .int .i64 x19_68 ∧ Aside0 (letterbaglaw18_FieldTells.j2 kq a0 t371 t372 t373 t374 t375 t376 x19_68 = some r) ∧ Aside0 (kq ≤ kj12) ∧ Aside0 (Below w.heap.size w wc))
              case first =>
                have H := HC69.out
                clear HC69
                by_cases c70 : (Int.tmod a2 63) < 0
                · rw [if_pos c70] at H
                  have c70b0 : decide ((Int.tmod a2 63) < 0) = true := decide_eq_true c70
                  clear c70
                  (first | rw [c70b0] | (simp only [i64_w, i32_w]; rw [c70b0]) | skip)
                  have H' := Aside0.mk H
                  clear H
                  go_wp2
                  go_meet
                  case rel => exact ⟨_, (wrap64 ((Int.tmod a2 63) + 63)), (by first | rfl | (simp; done) | (simp [*]; done)), H', ⟨by have := HJ8.out; have := HJ12.out; first | omega | exact Nat.le_refl _⟩, ⟨by repeat (first | (with_reducible first | exact HB.out | apply below_alloc | apply pw_below_drewN | apply below_drew1) | exact HB.out)⟩⟩
                · rw [if_neg c70] at H
                  have c70b0 : decide ((Int.tmod a2 63) < 0) = false := decide_eq_false c70
                  clear c70
                  (first | rw [c70b0] | (simp only [i64_w, i32_w]; rw [c70b0]) | skip)
                  have H' := Aside0.mk H
                  clear H
                  go_wp2
                  go_meet
                  case rel => exact ⟨_, (Int.tmod a2 63), (by first | rfl | (simp; done) | (simp [*]; done)), H', ⟨by have := HJ8.out; have := HJ12.out; first | omega | exact Nat.le_refl _⟩, ⟨by repeat (first | (with_reducible first | exact HB.out | apply below_alloc | apply pw_below_drewN | apply below_drew1) | exact HB.out)⟩⟩
              case rest =>
                clear HC69
                try clear c1
                try clear c2
                try clear p2
                try clear c3
                try clear c4
                try clear c5
                try clear c6
                try clear p6
                try clear c7
                try clear c12
                try clear c12b0
                try clear c14
                try clear c15
                try clear c15b0
                try clear c15b1
                try clear c16
                try clear c16b0
                try clear c16b1
                try clear c17
                try clear c17b0
                try clear c17b1
                try clear c18
                try clear c18b0
                try clear c18b1
                try clear c19
                try clear c19b0
                try clear c19b1
                try clear c20
                try clear c20b0
                try clear c20b1
                try clear c21
                try clear c21b0
                try clear c21b1
                try clear c23
                try clear c23b0
                try clear c23b1
                try clear c24
                try clear c24b0
                try clear c25
                try clear c25b0
                try clear c25b1
                try clear c26
                try clear c26b0
                try clear c26b1
                try clear c27
                try clear c27b0
                try clear c27b1
                try clear c28
                try clear c28b0
                try clear c28b1
                try clear c29
                try clear c29b0
                try clear c29b1
                try clear c30
                try clear c30b0
                try clear c30b1
                try clear c33
                try clear c33b0
                try clear c33b1
                try clear c34
                try clear c34b0
                try clear c34b1
                try clear c35
                try clear c35b0
                try clear c36
                try clear c36b0
                try clear c36b1
                try clear c37
                try clear c37b0
                try clear c37b1
                try clear c38
                try clear c38b0
                try clear c38b1
                try clear c39
                try clear c39b0
                try clear c39b1
                try clear c40
                try clear c40b0
                try clear c40b1
                try clear c41
                try clear c41b0
                try clear c41b1
                try clear c44
                try clear c44b0
                try clear c44b1
                try clear c45
                try clear c45b0
                try clear c45b1
                try clear c46
                try clear c46b0
                try clear c46b1
                try clear c47
                try clear c47b0
                try clear c47b1
                try clear c48
                try clear c48b0
                try clear c48b1
                try clear c49
                try clear c49b0
                try clear c49b1
                try clear c52
                try clear c52b0
                try clear c53
                try clear c53b0
                try clear c53b1
                try clear c54
                try clear c54b0
                try clear c54b1
                try clear c55
                try clear c55b0
                try clear c55b1
                try clear c56
                try clear c56b0
                try clear c56b1
                try clear c57
                try clear c57b0
                try clear c57b1
                try clear c58
                try clear c58b0
                try clear c58b1
                try clear c61
                try clear c61b0
                try clear c61b1
                try clear c62
                try clear c62b0
                try clear c62b1
                try clear c63
                try clear c63b0
                try clear c63b1
                try clear c64
                try clear c64b0
                try clear c64b1
                try clear p64
                try clear c65
                try clear c65b0
                try clear c65b1
                try clear c66
                try clear c66b0
                try clear c66b1
                try clear c70
                try clear c70b0
                try clear p2
                obtain ⟨kq, x19_68, rfl, HA, HJ68, HB⟩ := hcut
                cases kq with
                | zero => exact absurd HA.out (by simp [letterbaglaw18_FieldTells.j2])
                | succ kj68 =>
                  have H := HA.out
                  clear HA
                  simp only [letterbaglaw18_FieldTells.j2] at H
                  by_cases c71 : t372 = 0
                  · rw [if_pos c71] at H
                    have c71b0 : (t372 == 0) = true := beq_iff_eq.mpr c71
                    have c71b1 : (t372 != 0) = false := bne_eq_false_iff_eq.mpr c71
                    clear c71
                    by_cases c72 : t374 = t372
                    · rw [if_pos c72] at H
                      have c72b0 : (t374 == t372) = true := beq_iff_eq.mpr c72
                      have c72b1 : (t374 != t372) = false := bne_eq_false_iff_eq.mpr c72
                      clear c72
                      by_cases c73 : t376 = t372
                      · rw [if_pos c73] at H
                        have c73b0 : (t376 == t372) = true := beq_iff_eq.mpr c73
                        have c73b1 : (t376 != t372) = false := bne_eq_false_iff_eq.mpr c73
                        clear c73
                        replace H := Option.bind_eq_some_iff.mp H
                        obtain ⟨t383, A740, H⟩ := H
                        replace H : (if t371 = t383 then ((letterbagref18_Log.f kj68 a0).bind fun t384 => (if t375 = t384 then ((letterbagref18_Pow.f kj68 a0 x19_68).bind fun t385 => (if t373 = t385 then ((letterbaglaw18_awake.f).bind fun t386 => (some t386)) else (some false))) else (some false))) else (some false)) = some r := H
                        have A74 := Aside0.mk A740
                        clear A740
                        by_cases c75 : t371 = t383
                        · rw [if_pos c75] at H
                          have c75b0 : (t371 == t383) = true := beq_iff_eq.mpr c75
                          have c75b1 : (t371 != t383) = false := bne_eq_false_iff_eq.mpr c75
                          clear c75
                          replace H := Option.bind_eq_some_iff.mp H
                          obtain ⟨t384, A760, H⟩ := H
                          replace H : (if t375 = t384 then ((letterbagref18_Pow.f kj68 a0 x19_68).bind fun t385 => (if t373 = t385 then ((letterbaglaw18_awake.f).bind fun t386 => (some t386)) else (some false))) else (some false)) = some r := H
                          have A76 := Aside0.mk A760
                          clear A760
                          by_cases c77 : t375 = t384
                          · rw [if_pos c77] at H
                            have c77b0 : (t375 == t384) = true := beq_iff_eq.mpr c77
                            have c77b1 : (t375 != t384) = false := bne_eq_false_iff_eq.mpr c77
                            clear c77
                            replace H := Option.bind_eq_some_iff.mp H
                            obtain ⟨t385, A780, H⟩ := H
                            replace H : (if t373 = t385 then ((letterbaglaw18_awake.f).bind fun t386 => (some t386)) else (some false)) = some r := H
                            have A78 := Aside0.mk A780
                            clear A780
                            by_cases c79 : t373 = t385
                            · rw [if_pos c79] at H
                              have c79b0 : (t373 == t385) = true := beq_iff_eq.mpr c79
                              have c79b1 : (t373 != t385) = false := bne_eq_false_iff_eq.mpr c79
                              clear c79
                              replace H := Option.bind_eq_some_iff.mp H
                              obtain ⟨t386, A800, H⟩ := H
                              replace H : (some t386) = some r := H
                              have A80 := Aside0.mk A800
                              clear A800
                              obtain rfl := Option.some.inj H
                              go_wp2_with (first | (go_at_call 35; (with_reducible refine (letterbagref18_Inv.calls kj68 a0 t383 _ A74.out).mono ?_); rintro e w' ⟨rfl, ⟨nd, rfl⟩⟩) | (go_at_call 36; (with_reducible refine (letterbagref18_Log.calls kj68 a0 t384 _ A76.out).mono ?_); rintro e w' ⟨rfl, ⟨nd, rfl⟩⟩) | (go_at_call 37; (with_reducible refine (letterbagref18_Pow.calls kj68 a0 x19_68 t385 _ A78.out).mono ?_); rintro e w' ⟨rfl, ⟨nd, rfl⟩⟩) | (go_at_call 11; (with_reducible refine (letterbaglaw18_awake.calls  t386 _ ?side1 A80.out).mono ?_); (case side1 => repeat (first | exact (Kd.C_below HRT.out (by repeat (first | (with_reducible first | exact HB.out | apply below_alloc | apply pw_below_drewN | apply below_drew1) | exact HB.out))) | (with_reducible refine Kd.C_alloc ?_ _) | (with_reducible refine Kd.C_drewN ?_ _) | (with_reducible refine Kd.C_drew ?_))); rintro e w81 ⟨rfl, hb⟩; have n0_ := Aside0.mk (below_step (by repeat (first | (with_reducible first | exact HB.out | apply below_alloc | apply pw_below_drewN | apply below_drew1) | exact HB.out)) hb); clear HB; have HB := n0_; clear n0_; (try clear hb); (try clear hb2); (try clear hk); (try clear hi)))
                              go_ret
                              exact ⟨by first | rfl | (simp [errW_none, errW_some] <;> rfl) | (simp [*, errW_none, errW_some] <;> rfl), by repeat (first | (with_reducible first | exact HB.out | apply below_alloc | apply pw_below_drewN | apply below_drew1) | exact HB.out)⟩
                            · rw [if_neg c79] at H
                              have c79b0 : (t373 == t385) = false := beq_eq_false_iff_ne.mpr c79
                              have c79b1 : (t373 != t385) = true := bne_iff_ne.mpr c79
                              obtain rfl := Option.some.inj H
                              go_wp2_with (first | (go_at_call 35; (with_reducible refine (letterbagref18_Inv.calls kj68 a0 t383 _ A74.out).mono ?_); rintro e w' ⟨rfl, ⟨nd, rfl⟩⟩) | (go_at_call 36; (with_reducible refine (letterbagref18_Log.calls kj68 a0 t384 _ A76.out).mono ?_); rintro e w' ⟨rfl, ⟨nd, rfl⟩⟩) | (go_at_call 37; (with_reducible refine (letterbagref18_Pow.calls kj68 a0 x19_68 t385 _ A78.out).mono ?_); rintro e w' ⟨rfl, ⟨nd, rfl⟩⟩))
                              go_ret
                              exact ⟨by first | rfl | (simp [errW_none, errW_some] <;> rfl) | (simp [*, errW_none, errW_some] <;> rfl), by repeat (first | (with_reducible first | exact HB.out | apply below_alloc | apply pw_below_drewN | apply below_drew1) | exact HB.out)⟩
                          · rw [if_neg c77] at H
                            have c77b0 : (t375 == t384) = false := beq_eq_false_iff_ne.mpr c77
                            have c77b1 : (t375 != t384) = true := bne_iff_ne.mpr c77
                            obtain rfl := Option.some.inj H
                            go_wp2_with (first | (go_at_call 35; (with_reducible refine (letterbagref18_Inv.calls kj68 a0 t383 _ A74.out).mono ?_); rintro e w' ⟨rfl, ⟨nd, rfl⟩⟩) | (go_at_call 36; (with_reducible refine (letterbagref18_Log.calls kj68 a0 t384 _ A76.out).mono ?_); rintro e w' ⟨rfl, ⟨nd, rfl⟩⟩))
                            go_ret
                            exact ⟨by first | rfl | (simp [errW_none, errW_some] <;> rfl) | (simp [*, errW_none, errW_some] <;> rfl), by repeat (first | (with_reducible first | exact HB.out | apply below_alloc | apply pw_below_drewN | apply below_drew1) | exact HB.out)⟩
                        · rw [if_neg c75] at H
                          have c75b0 : (t371 == t383) = false := beq_eq_false_iff_ne.mpr c75
                          have c75b1 : (t371 != t383) = true := bne_iff_ne.mpr c75
                          obtain rfl := Option.some.inj H
                          go_wp2_with (first | (go_at_call 35; (with_reducible refine (letterbagref18_Inv.calls kj68 a0 t383 _ A74.out).mono ?_); rintro e w' ⟨rfl, ⟨nd, rfl⟩⟩))
                          go_ret
                          exact ⟨by first | rfl | (simp [errW_none, errW_some] <;> rfl) | (simp [*, errW_none, errW_some] <;> rfl), by repeat (first | (with_reducible first | exact HB.out | apply below_alloc | apply pw_below_drewN | apply below_drew1) | exact HB.out)⟩
                      · rw [if_neg c73] at H
                        have c73b0 : (t376 == t372) = false := beq_eq_false_iff_ne.mpr c73
                        have c73b1 : (t376 != t372) = true := bne_iff_ne.mpr c73
                        obtain rfl := Option.some.inj H
                        go_wp2
                        go_ret
                        exact ⟨by first | rfl | (simp [errW_none, errW_some] <;> rfl) | (simp [*, errW_none, errW_some] <;> rfl), by repeat (first | (with_reducible first | exact HB.out | apply below_alloc | apply pw_below_drewN | apply below_drew1) | exact HB.out)⟩
                    · rw [if_neg c72] at H
                      have c72b0 : (t374 == t372) = false := beq_eq_false_iff_ne.mpr c72
                      have c72b1 : (t374 != t372) = true := bne_iff_ne.mpr c72
                      obtain rfl := Option.some.inj H
                      go_wp2
                      go_ret
                      exact ⟨by first | rfl | (simp [errW_none, errW_some] <;> rfl) | (simp [*, errW_none, errW_some] <;> rfl), by repeat (first | (with_reducible first | exact HB.out | apply below_alloc | apply pw_below_drewN | apply below_drew1) | exact HB.out)⟩
                  · rw [if_neg c71] at H
                    have c71b0 : (t372 == 0) = false := beq_eq_false_iff_ne.mpr c71
                    have c71b1 : (t372 != 0) = true := bne_iff_ne.mpr c71
                    obtain rfl := Option.some.inj H
                    go_wp2
                    go_ret
                    exact ⟨by first | rfl | (simp [errW_none, errW_some] <;> rfl) | (simp [*, errW_none, errW_some] <;> rfl), by repeat (first | (with_reducible first | exact HB.out | apply below_alloc | apply pw_below_drewN | apply below_drew1) | exact HB.out)⟩

/-- THE ONE PURE STATEMENT of letterbaglaw18_FieldTells: yours. -/
def letterbaglaw18_FieldTells.Pure : Prop := ∀ (a0 : Int) (a1 : Int) (a2 : Int), (Lit.int .u8 a0).wf = true → (Lit.int .u8 a1).wf = true → (Lit.int .i64 a2).wf = true → ∃ k, letterbaglaw18_FieldTells.f k a0 a1 a2 = some true
theorem letterbaglaw18_FieldTells.walk (P : letterbaglaw18_FieldTells.Pure) (a0 : Int) (a1 : Int) (a2 : Int) (w : World) (w0 : (Lit.int .u8 a0).wf = true) (w1 : (Lit.int .u8 a1).wf = true) (w2 : (Lit.int .i64 a2).wf = true) (hT : Kd.C (Kd.int .u8) w (some ⟨0, 0, none⟩) 63 pwI) :
    Calls Tryd.prog 6 #[.int .u8 a0, .int .u8 a1, .int .i64 a2] w fun e w' => e = .returned (.bool true) ∧ Below w.heap.size w w' := by
  obtain ⟨k, h⟩ := P a0 a1 a2 w0 w1 w2
  refine (letterbaglaw18_FieldTells.calls k a0 a1 a2 true w hT h).mono ?_
  rintro e w' ⟨rfl, hd⟩
  exact ⟨rfl, hd⟩

end Go.Proofs.YtehgfpfmpkmdmaaDoor.Print
