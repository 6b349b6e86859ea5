-- Gpo (what this claim uses of them)
import Derived.Test.YtehgfpfmpkmdmaaDoorYp36
namespace Go.Proofs.YtehgfpfmpkmdmaaDoor.Print
open Go.RowKit Go.Proofs.YtehgfpfmpkmdmaaDoorW.PrintWords Go.Proofs.YtehgfpfmpkmdmaaDoorW.PrintLast Go.Proofs.YtehgfpfmpkmdmaaDoorW.PrintMore
attribute [local go_sem] max2_int min2_int max_two min_two max_three min_three max_four min_four   -- for this text's walks alone
set_option linter.unusedVariables false
set_option linter.unusedSimpArgs false
namespace Gpo
/-- The call overwrote a block of our own. -/
theorem over_below {w0 w w' : World} {row : Option Nat} (h : Below w0.heap.size w0 w) (hg : w.grownBy w' row) (hr : ∀ k, row = some k → w0.heap.size ≤ k) : Below w0.heap.size w0 w' :=
  ⟨hg.os.trans h.os, hg.tape.trans h.tape, hg.output.trans h.output, Nat.le_trans h.size hg.size, fun k hk => (hg.block k (Nat.lt_of_lt_of_le hk h.size) (fun e => Nat.lt_irrefl _ (Nat.lt_of_lt_of_le hk (hr k e.symm)))).trans (h.block k hk)⟩
theorem lent_cap {w : World} {A : Option Addr} {n c : Nat} {l : List Int} (h : Lent w (.slice A n c) l) : l.length + 12 ≤ c := by
  obtain ⟨A', c', e, h1, _⟩ := h
  injection e with e1 e2 e3
  subst e3
  rw [List.length_append, mks_len] at h1
  exact h1
end Gpo
open Gpo
theorem no_j1 : ∀ k x0 x1 x2 x3 x4 x5 x6 x7 x8 x9 x10 x11 x12 x13 x14, letterbaglaw18_FieldPolys.j1 k x0 x1 x2 x3 x4 x5 x6 x7 x8 x9 x10 x11 x12 x13 x14 true = some true → False := by
  intro k x0 x1 x2 x3 x4 x5 x6 x7 x8 x9 x10 x11 x12 x13 x14 h
  cases k with
  | zero => simp [letterbaglaw18_FieldPolys.j1] at h
  | succ k => simp [letterbaglaw18_FieldPolys.j1] at h
theorem no_j2 : ∀ k x0 x1 x2 x3 x4 x5 x6 x7 x8 x9 x10 x11, letterbaglaw18_FieldPolys.j2 k x0 x1 x2 x3 x4 x5 x6 x7 x8 x9 x10 x11 true = some true → False := by
  intro k x0 x1 x2 x3 x4 x5 x6 x7 x8 x9 x10 x11 h
  cases k with
  | zero => simp [letterbaglaw18_FieldPolys.j2] at h
  | succ k => simp [letterbaglaw18_FieldPolys.j2] at h
set_option maxHeartbeats 8000000 in
set_option maxRecDepth 100000 in
theorem letterbaglaw18_FieldPolys.calls (k : Nat) (A0 : Option Addr) (c0 : Nat) (l0 : List Int) (A1 : Option Addr) (c1 : Nat) (l1 : List Int) (w : World) (hr0 : Kd.C (Kd.int .u8) w A0 l0.length l0) (hc0 : l0.length ≤ c0) (hr1 : Kd.C (Kd.int .u8) w A1 l1.length l1) (hc1 : l1.length ≤ c1) (hT : Kd.C (Kd.int .u8) w (some ⟨0, 0, none⟩) 63 pwI) (h : letterbaglaw18_FieldPolys.f k l0 l1 = some true) :
    Calls Tryd.prog 3 #[.slice A0 l0.length c0, .slice A1 l1.length c1] w fun e w' => e = .returned (.bool true) ∧ Below w.heap.size w w' := by
  have HR0 := Aside0.mk hr0
  have HC0 := Aside0.mk hc0
  clear hr0 hc0
  have HR1 := Aside0.mk hr1
  have HC1 := Aside0.mk hc1
  clear hr1 hc1
  have HRT := Aside0.mk hT
  clear hT
  have HB := Aside0.mk (Below.refl w.heap.size w)
  have H : (if (l0.length : Int) > 200 then (letterbaglaw18_FieldPolys.j0 k l0 l1 true) else (letterbaglaw18_FieldPolys.j0 k l0 l1 (decide ((l1.length : Int) > 200)))) = some true := h
  clear h
  have HC3 := Aside0.mk H
  clear H
  go_enter Tryd.func3, Tryd.ntmps3
  go_upto_region 1 with (fail)
  go_cut [30] (fun v30 wc => ∃ (kq : Nat) (x30_2 : Bool), v30 = .bool x30_2 ∧ Aside0 (letterbaglaw18_FieldPolys.j0 kq l0 l1 x30_2 = some true) ∧ Aside0 (kq ≤ k) ∧ Aside0 (Below w.heap.size w wc))
  case first =>
    have H := HC3.out
    clear HC3
    by_cases c4 : (l0.length : Int) > 200
    · rw [if_pos c4] at H
      have c4b0 : decide (200 < (l0.length : Int)) = true := decide_eq_true c4
      have c4b1 : decide (200 < l0.length) = true := decide_eq_true (by omega)
      clear c4
      (first | rw [c4b0] | (simp only [i64_w, i32_w]; rw [c4b0]) | skip)
      have H' := Aside0.mk H
      clear H
      go_wp2
      go_meet
      case rel => exact ⟨_, (true), (by first | rfl | (simp; done) | (simp [*]; done)), H', ⟨by first | omega | exact Nat.le_refl _⟩, ⟨by repeat (first | (with_reducible first | exact HB.out | apply below_alloc | apply pw_below_drewN | apply below_drew1) | exact HB.out)⟩⟩
    · rw [if_neg c4] at H
      have c4b0 : decide (200 < (l0.length : Int)) = false := decide_eq_false c4
      have c4b1 : decide (200 < l0.length) = false := decide_eq_false (by omega)
      clear c4
      (first | rw [c4b0] | (simp only [i64_w, i32_w]; rw [c4b0]) | skip)
      have H' := Aside0.mk H
      clear H
      go_wp2
      go_meet
      case rel => exact ⟨_, (decide ((l1.length : Int) > 200)), (by first | rfl | (simp; done) | (simp [*]; done)), H', ⟨by first | omega | exact Nat.le_refl _⟩, ⟨by repeat (first | (with_reducible first | exact HB.out | apply below_alloc | apply pw_below_drewN | apply below_drew1) | exact HB.out)⟩⟩
  case rest =>
    clear HC3
    try clear c1
    try clear p2
    try clear c3
    try clear c4
    try clear c4b0
    try clear c4b1
    obtain ⟨kq, x30_2, rfl, HA, HJ2, HB⟩ := hcut
    cases kq with
    | zero => exact absurd HA.out (by simp [letterbaglaw18_FieldPolys.j0])
    | succ kj2 =>
      have H := HA.out
      clear HA
      simp only [letterbaglaw18_FieldPolys.j0] at H
      by_cases c5 : x30_2 = true
      · subst c5
        have H1 : ((letterbaglaw18_awake.f).bind fun t293 => (some t293)) = some true := by rw [if_pos rfl] at H; exact H
        clear H
        have H := H1
        clear H1
        replace H := Option.bind_eq_some_iff.mp H
        obtain ⟨t293, A60, H⟩ := H
        replace H : (some t293) = some true := H
        have A6 := Aside0.mk A60
        clear A60
        try exact absurd H (by decide)
        all_goals (have HTR := Aside0.mk (Option.some.inj H))
        all_goals (go_wp2_with (first | ((with_reducible refine gate_callee (f := 11) rfl ?_); refine goesL_ (some 31) rfl rfl Tryd.func11 (by kernel_rfl) rfl #[] rfl (by (try simp only [List.map_toArray, List.map_cons, List.map_nil]); first | done | rfl | (simp only [List.length_drop, List.length_take]; rfl)) ?_; (with_reducible refine (letterbaglaw18_awake.calls  t293 _ ?side1 A6.out).mono ?_); (case side1 => repeat (first | exact (Kd.C_below HRT.out HB.out) | (with_reducible refine Kd.C_alloc ?_ _) | (with_reducible refine Kd.C_drewN ?_ _) | (with_reducible refine Kd.C_drew ?_))); rintro e w7 ⟨rfl, hb⟩; refine ⟨_, rfl, ?_⟩; have n0_ := Aside0.mk (below_step (by repeat (first | (with_reducible first | exact HB.out | apply below_alloc | apply pw_below_drewN | apply below_drew1) | exact HB.out)) hb); clear HB; have HB := n0_; clear n0_; (try clear hb); (try clear hb2); (try clear hk); (try clear hi))))
        all_goals (go_ret)
        all_goals (exact ⟨by first | rfl | (rw [HTR.out]; rfl) | (simp [errW_none, errW_some] <;> rfl) | (simp [*, errW_none, errW_some] <;> rfl), by repeat (first | (with_reducible first | exact HB.out | apply below_alloc | apply pw_below_drewN | apply below_drew1) | exact HB.out)⟩)
      · replace c5 := Bool.eq_false_iff.mpr c5
        subst c5
        have H1 : ((letterbagkit_LentBytes.f l0).bind fun t294 => ((letterbagkit_LentBytes.f l1).bind fun t297 => ((field_Trim.f kj2 t294).bind fun bt300 => ((field_Degree.f kj2 t294).bind fun bt304 => ((field_Sum.f t294 t297).bind fun bt306 => ((field_Product.f t294 t297).bind fun bt310 => ((field_Divide.f kj2 t294 t297).bind fun bt314 => ((letterbagkit_KeptBytes.f t294 l0).bind fun t321 => (if t321 = true then ((letterbagkit_KeptBytes.f t297 l1).bind fun t322 => (letterbaglaw18_FieldPolys.j1 kj2 l0 l1 t294 t297 bt300.1 bt300.2 bt304.1 bt304.2 bt306.1 bt306.2 bt310.1 bt310.2 bt314.1 bt314.2.1 bt314.2.2 (!t322))) else (letterbaglaw18_FieldPolys.j1 kj2 l0 l1 t294 t297 bt300.1 bt300.2 bt304.1 bt304.2 bt306.1 bt306.2 bt310.1 bt310.2 bt314.1 bt314.2.1 bt314.2.2 true)))))))))) = some true := by rw [if_neg (show ¬ (false = true) by decide)] at H; exact H
        clear H
        have H := H1
        clear H1
        replace H := Option.bind_eq_some_iff.mp H
        obtain ⟨t294, A80, H⟩ := H
        replace H : ((letterbagkit_LentBytes.f l1).bind fun t297 => ((field_Trim.f kj2 t294).bind fun bt300 => ((field_Degree.f kj2 t294).bind fun bt304 => ((field_Sum.f t294 t297).bind fun bt306 => ((field_Product.f t294 t297).bind fun bt310 => ((field_Divide.f kj2 t294 t297).bind fun bt314 => ((letterbagkit_KeptBytes.f t294 l0).bind fun t321 => (if t321 = true then ((letterbagkit_KeptBytes.f t297 l1).bind fun t322 => (letterbaglaw18_FieldPolys.j1 kj2 l0 l1 t294 t297 bt300.1 bt300.2 bt304.1 bt304.2 bt306.1 bt306.2 bt310.1 bt310.2 bt314.1 bt314.2.1 bt314.2.2 (!t322))) else (letterbaglaw18_FieldPolys.j1 kj2 l0 l1 t294 t297 bt300.1 bt300.2 bt304.1 bt304.2 bt306.1 bt306.2 bt310.1 bt310.2 bt314.1 bt314.2.1 bt314.2.2 true))))))))) = some true := H
        have A8 := Aside0.mk A80
        clear A80
        replace H := Option.bind_eq_some_iff.mp H
        obtain ⟨t297, A90, H⟩ := H
        replace H : ((field_Trim.f kj2 t294).bind fun bt300 => ((field_Degree.f kj2 t294).bind fun bt304 => ((field_Sum.f t294 t297).bind fun bt306 => ((field_Product.f t294 t297).bind fun bt310 => ((field_Divide.f kj2 t294 t297).bind fun bt314 => ((letterbagkit_KeptBytes.f t294 l0).bind fun t321 => (if t321 = true then ((letterbagkit_KeptBytes.f t297 l1).bind fun t322 => (letterbaglaw18_FieldPolys.j1 kj2 l0 l1 t294 t297 bt300.1 bt300.2 bt304.1 bt304.2 bt306.1 bt306.2 bt310.1 bt310.2 bt314.1 bt314.2.1 bt314.2.2 (!t322))) else (letterbaglaw18_FieldPolys.j1 kj2 l0 l1 t294 t297 bt300.1 bt300.2 bt304.1 bt304.2 bt306.1 bt306.2 bt310.1 bt310.2 bt314.1 bt314.2.1 bt314.2.2 true)))))))) = some true := H
        have A9 := Aside0.mk A90
        clear A90
        replace H := Option.bind_eq_some_iff.mp H
        obtain ⟨⟨t300, t303⟩, A100, H⟩ := H
        replace H : ((field_Degree.f kj2 t294).bind fun bt304 => ((field_Sum.f t294 t297).bind fun bt306 => ((field_Product.f t294 t297).bind fun bt310 => ((field_Divide.f kj2 t294 t297).bind fun bt314 => ((letterbagkit_KeptBytes.f t294 l0).bind fun t321 => (if t321 = true then ((letterbagkit_KeptBytes.f t297 l1).bind fun t322 => (letterbaglaw18_FieldPolys.j1 kj2 l0 l1 t294 t297 t300 t303 bt304.1 bt304.2 bt306.1 bt306.2 bt310.1 bt310.2 bt314.1 bt314.2.1 bt314.2.2 (!t322))) else (letterbaglaw18_FieldPolys.j1 kj2 l0 l1 t294 t297 t300 t303 bt304.1 bt304.2 bt306.1 bt306.2 bt310.1 bt310.2 bt314.1 bt314.2.1 bt314.2.2 true))))))) = some true := H
        have A10 := Aside0.mk A100
        clear A100
        replace H := Option.bind_eq_some_iff.mp H
        obtain ⟨⟨t304, t305⟩, A110, H⟩ := H
        replace H : ((field_Sum.f t294 t297).bind fun bt306 => ((field_Product.f t294 t297).bind fun bt310 => ((field_Divide.f kj2 t294 t297).bind fun bt314 => ((letterbagkit_KeptBytes.f t294 l0).bind fun t321 => (if t321 = true then ((letterbagkit_KeptBytes.f t297 l1).bind fun t322 => (letterbaglaw18_FieldPolys.j1 kj2 l0 l1 t294 t297 t300 t303 t304 t305 bt306.1 bt306.2 bt310.1 bt310.2 bt314.1 bt314.2.1 bt314.2.2 (!t322))) else (letterbaglaw18_FieldPolys.j1 kj2 l0 l1 t294 t297 t300 t303 t304 t305 bt306.1 bt306.2 bt310.1 bt310.2 bt314.1 bt314.2.1 bt314.2.2 true)))))) = some true := H
        have A11 := Aside0.mk A110
        clear A110
        replace H := Option.bind_eq_some_iff.mp H
        obtain ⟨⟨t306, t309⟩, A120, H⟩ := H
        replace H : ((field_Product.f t294 t297).bind fun bt310 => ((field_Divide.f kj2 t294 t297).bind fun bt314 => ((letterbagkit_KeptBytes.f t294 l0).bind fun t321 => (if t321 = true then ((letterbagkit_KeptBytes.f t297 l1).bind fun t322 => (letterbaglaw18_FieldPolys.j1 kj2 l0 l1 t294 t297 t300 t303 t304 t305 t306 t309 bt310.1 bt310.2 bt314.1 bt314.2.1 bt314.2.2 (!t322))) else (letterbaglaw18_FieldPolys.j1 kj2 l0 l1 t294 t297 t300 t303 t304 t305 t306 t309 bt310.1 bt310.2 bt314.1 bt314.2.1 bt314.2.2 true))))) = some true := H
        have A12 := Aside0.mk A120
        clear A120
        replace H := Option.bind_eq_some_iff.mp H
        obtain ⟨⟨t310, t313⟩, A130, H⟩ := H
        replace H : ((field_Divide.f kj2 t294 t297).bind fun bt314 => ((letterbagkit_KeptBytes.f t294 l0).bind fun t321 => (if t321 = true then ((letterbagkit_KeptBytes.f t297 l1).bind fun t322 => (letterbaglaw18_FieldPolys.j1 kj2 l0 l1 t294 t297 t300 t303 t304 t305 t306 t309 t310 t313 bt314.1 bt314.2.1 bt314.2.2 (!t322))) else (letterbaglaw18_FieldPolys.j1 kj2 l0 l1 t294 t297 t300 t303 t304 t305 t306 t309 t310 t313 bt314.1 bt314.2.1 bt314.2.2 true)))) = some true := H
        have A13 := Aside0.mk A130
        clear A130
        replace H := Option.bind_eq_some_iff.mp H
        obtain ⟨⟨t314, t317, t320⟩, A140, H⟩ := H
        replace H : ((letterbagkit_KeptBytes.f t294 l0).bind fun t321 => (if t321 = true then ((letterbagkit_KeptBytes.f t297 l1).bind fun t322 => (letterbaglaw18_FieldPolys.j1 kj2 l0 l1 t294 t297 t300 t303 t304 t305 t306 t309 t310 t313 t314 t317 t320 (!t322))) else (letterbaglaw18_FieldPolys.j1 kj2 l0 l1 t294 t297 t300 t303 t304 t305 t306 t309 t310 t313 t314 t317 t320 true))) = some true := H
        have A14 := Aside0.mk A140
        clear A140
        have HC15 := Aside0.mk H
        clear H
        go_upto_region 9 with (first | ((with_reducible refine gate_callee (f := 12) rfl ?_); refine goesL_ (some 33) rfl rfl Tryd.func12 (by kernel_rfl) rfl #[.slice A0 l0.length c0] rfl (by (try simp only [List.map_toArray, List.map_cons, List.map_nil]); first | done | rfl | (simp only [List.length_drop, List.length_take]; rfl)) ?_; (with_reducible refine (letterbagkit_LentBytes.calls _ _ l0 t294 _ ?side1 ?side2 A8.out).mono ?_); (case side1 => repeat (first | exact (Kd.C_below HR0.out HB.out) | (with_reducible refine Kd.C_alloc ?_ _) | (with_reducible refine Kd.C_drewN ?_ _) | (with_reducible refine Kd.C_drew ?_))); (case side2 => exact HC0.out); rintro e w16 ⟨v295, rfl, ho0, hl, hb⟩; refine ⟨_, rfl, ?_⟩; have HL_1 := Aside0.mk hl; clear hl; have n0_ := Aside0.mk (Kd.R_lower ho0 (below_size (by repeat (first | (with_reducible first | exact HB.out | apply below_alloc | apply pw_below_drewN | apply below_drew1) | exact HB.out)))); have n1_ := Aside0.mk (below_step (by repeat (first | (with_reducible first | exact HB.out | apply below_alloc | apply pw_below_drewN | apply below_drew1) | exact HB.out)) hb); clear HB; have HO296 := n0_; have HB := n1_; clear n0_ n1_; (try clear hb); (try clear hb2); (try clear hk); (try clear hi); (try clear ho0)) | ((with_reducible refine gate_callee (f := 12) rfl ?_); refine goesL_ (some 35) rfl rfl Tryd.func12 (by kernel_rfl) rfl #[.slice A1 l1.length c1] rfl (by (try simp only [List.map_toArray, List.map_cons, List.map_nil]); first | done | rfl | (simp only [List.length_drop, List.length_take]; rfl)) ?_; (with_reducible refine (letterbagkit_LentBytes.calls _ _ l1 t297 _ ?side1 ?side2 A9.out).mono ?_); (case side1 => repeat (first | exact (Kd.C_below HR1.out HB.out) | (with_reducible refine Kd.C_alloc ?_ _) | (with_reducible refine Kd.C_drewN ?_ _) | (with_reducible refine Kd.C_drew ?_))); (case side2 => exact HC1.out); rintro e w17 ⟨v298, rfl, ho0, hl, hb⟩; refine ⟨_, rfl, ?_⟩; have HL_2 := Aside0.mk hl; clear hl; have HL_1 := Aside0.mk (Lent.below HL_1.out hb); have n0_ := Aside0.mk (Kd.R_elder' (by (with_reducible repeat (first | apply Kd.R_alloc | apply Kd.R_drewN | apply Kd.R_drew)); exact HO296.out) (Kd.R_base ho0) hb); have n1_ := Aside0.mk (Kd.R_lower (Kd.R_new' ho0 (Kd.R_lt (by (with_reducible repeat (first | apply Kd.R_alloc | apply Kd.R_drewN | apply Kd.R_drew)); exact HO296.out))) (below_size (by repeat (first | (with_reducible first | exact HB.out | apply below_alloc | apply pw_below_drewN | apply below_drew1) | exact HB.out)))); have n2_ := Aside0.mk (below_step (by repeat (first | (with_reducible first | exact HB.out | apply below_alloc | apply pw_below_drewN | apply below_drew1) | exact HB.out)) hb); clear HO296; clear HB; have HO296 := n0_; have HO299 := n1_; have HB := n2_; clear n0_ n1_ n2_; (try clear hb); (try clear hb2); (try clear hk); (try clear hi); (try clear ho0); obtain ⟨Ao18, co18, eo18⟩ := Kd.R_slice HO296.out; subst eo18) | ((with_reducible refine gate_callee (f := 13) rfl ?_); refine goesL_ (some 38) rfl rfl Tryd.func13 (by kernel_rfl) rfl #[.slice Ao18 t294.length co18] rfl (by (try simp only [List.map_toArray, List.map_cons, List.map_nil]); first | done | rfl | (simp only [List.length_drop, List.length_take]; rfl)) ?_; (with_reducible refine (field_Trim.calls kj2 (fun k_ => some k_ = (.slice Ao18 t294.length co18 : Value).ownBlock) _ _ t294 t300 t303 _ ?side1 A10.out).mono ?_); (case side1 => exact Kd.R_V (Kd.R_tight rfl (HO296.out))); rintro e w19 ⟨v301, rfl, ho0, hb⟩; refine ⟨_, rfl, ?_⟩; have HL_1 := Aside0.mk (Lent.below HL_1.out hb); have HL_2 := Aside0.mk (Lent.below HL_2.out hb); have n0_ := Aside0.mk (Kd.R_elder' (by (with_reducible repeat (first | apply Kd.R_alloc | apply Kd.R_drewN | apply Kd.R_drew)); exact HO296.out) (Kd.R_base ho0) hb); have n1_ := Aside0.mk (Kd.R_elder' (by (with_reducible repeat (first | apply Kd.R_alloc | apply Kd.R_drewN | apply Kd.R_drew)); exact HO299.out) (Kd.R_base ho0) hb); have n2_ := Aside0.mk (Kd.R_lower (Kd.R_new' (Kd.R_new' (Kd.R_mono (ok' := fun k_ => True) ho0 (fun _ hk_ => trivial)) (Kd.R_lt (by (with_reducible repeat (first | apply Kd.R_alloc | apply Kd.R_drewN | apply Kd.R_drew)); exact HO296.out))) (Kd.R_lt (by (with_reducible repeat (first | apply Kd.R_alloc | apply Kd.R_drewN | apply Kd.R_drew)); exact HO299.out))) (below_size (by repeat (first | (with_reducible first | exact HB.out | apply below_alloc | apply pw_below_drewN | apply below_drew1) | exact HB.out)))); have n3_ := Aside0.mk (below_step (by repeat (first | (with_reducible first | exact HB.out | apply below_alloc | apply pw_below_drewN | apply below_drew1) | exact HB.out)) hb); clear HO296; clear HO299; clear HB; have HO296 := n0_; have HO299 := n1_; have HO302 := n2_; have HB := n3_; clear n0_ n1_ n2_ n3_; (try clear hb); (try clear hb2); (try clear hk); (try clear hi); (try clear ho0)) | ((with_reducible refine gate_callee (f := 14) rfl ?_); refine goesL_ (some 43) rfl rfl Tryd.func14 (by kernel_rfl) rfl #[.slice Ao18 t294.length co18] rfl (by (try simp only [List.map_toArray, List.map_cons, List.map_nil]); first | done | rfl | (simp only [List.length_drop, List.length_take]; rfl)) ?_; (with_reducible refine (field_Degree.calls kj2 (fun k_ => some k_ = (.slice Ao18 t294.length co18 : Value).ownBlock) _ _ t294 t304 t305 _ ?side1 A11.out).mono ?_); (case side1 => exact Kd.R_V (Kd.R_tight rfl (HO296.out))); rintro e w20 ⟨rfl, hb⟩; refine ⟨_, rfl, ?_⟩; have HL_1 := Aside0.mk (Lent.below HL_1.out hb); have HL_2 := Aside0.mk (Lent.below HL_2.out hb); have n0_ := Aside0.mk (Kd.R_below (by (with_reducible repeat (first | apply Kd.R_alloc | apply Kd.R_drewN | apply Kd.R_drew)); exact HO296.out) hb); have n1_ := Aside0.mk (Kd.R_below (by (with_reducible repeat (first | apply Kd.R_alloc | apply Kd.R_drewN | apply Kd.R_drew)); exact HO299.out) hb); have n2_ := Aside0.mk (Kd.R_below (by (with_reducible repeat (first | apply Kd.R_alloc | apply Kd.R_drewN | apply Kd.R_drew)); exact HO302.out) hb); have n3_ := Aside0.mk (below_step (by repeat (first | (with_reducible first | exact HB.out | apply below_alloc | apply pw_below_drewN | apply below_drew1) | exact HB.out)) hb); clear HO296; clear HO299; clear HO302; clear HB; have HO296 := n0_; have HO299 := n1_; have HO302 := n2_; have HB := n3_; clear n0_ n1_ n2_ n3_; (try clear hb); (try clear hb2); (try clear hk); (try clear hi); obtain ⟨Ao21, co21, eo21⟩ := Kd.R_slice HO299.out; subst eo21) | ((with_reducible refine gate_callee (f := 15) rfl ?_); refine goesL_ (some 49) rfl rfl Tryd.func15 (by kernel_rfl) rfl #[.slice Ao18 t294.length co18, .slice Ao21 t297.length co21] rfl (by (try simp only [List.map_toArray, List.map_cons, List.map_nil]); first | done | rfl | (simp only [List.length_drop, List.length_take]; rfl)) ?_; (with_reducible refine (field_Sum.calls (fun k_ => some k_ = (.slice Ao18 t294.length co18 : Value).ownBlock) _ _ t294 (fun k_ => some k_ = (.slice Ao21 t297.length co21 : Value).ownBlock) _ _ t297 t306 t309 _ ?side1 ?side2 A12.out).mono ?_); (case side1 => exact Kd.R_V (Kd.R_tight rfl (HO296.out))); (case side2 => exact Kd.R_V (Kd.R_tight rfl (HO299.out))); rintro e w22 ⟨v307, rfl, ho0, hb⟩; refine ⟨_, rfl, ?_⟩; have HL_1 := Aside0.mk (Lent.below HL_1.out hb); have HL_2 := Aside0.mk (Lent.below HL_2.out hb); have n0_ := Aside0.mk (Kd.R_elder' (by (with_reducible repeat (first | apply Kd.R_alloc | apply Kd.R_drewN | apply Kd.R_drew)); exact HO296.out) (Kd.R_base ho0) hb); have n1_ := Aside0.mk (Kd.R_elder' (by (with_reducible repeat (first | apply Kd.R_alloc | apply Kd.R_drewN | apply Kd.R_drew)); exact HO299.out) (Kd.R_base ho0) hb); have n2_ := Aside0.mk (Kd.R_elder' (by (with_reducible repeat (first | apply Kd.R_alloc | apply Kd.R_drewN | apply Kd.R_drew)); exact HO302.out) (Kd.R_base ho0) hb); have n3_ := Aside0.mk (Kd.R_lower (Kd.R_new' (Kd.R_new' (Kd.R_new' (Kd.R_mono (ok' := fun k_ => True) ho0 (fun _ hk_ => trivial)) (Kd.R_lt (by (with_reducible repeat (first | apply Kd.R_alloc | apply Kd.R_drewN | apply Kd.R_drew)); exact HO296.out))) (Kd.R_lt (by (with_reducible repeat (first | apply Kd.R_alloc | apply Kd.R_drewN | apply Kd.R_drew)); exact HO299.out))) (Kd.R_lt (by (with_reducible repeat (first | apply Kd.R_alloc | apply Kd.R_drewN | apply Kd.R_drew)); exact HO302.out))) (below_size (by repeat (first | (with_reducible first | exact HB.out | apply below_alloc | apply pw_below_drewN | apply below_drew1) | exact HB.out)))); have n4_ := Aside0.mk (below_step (by repeat (first | (with_reducible first | exact HB.out | apply below_alloc | apply pw_below_drewN | apply below_drew1) | exact HB.out)) hb); clear HO296; clear HO299; clear HO302; clear HB; have HO296 := n0_; have HO299 := n1_; have HO302 := n2_; have HO308 := n3_; have HB := n4_; clear n0_ n1_ n2_ n3_ n4_; (try clear hb); (try clear hb2); (try clear hk); (try clear hi); (try clear ho0)) | ((with_reducible refine gate_callee (f := 16) rfl ?_); refine goesL_ (some 55) rfl rfl Tryd.func16 (by kernel_rfl) rfl #[.slice Ao18 t294.length co18, .slice Ao21 t297.length co21] rfl (by (try simp only [List.map_toArray, List.map_cons, List.map_nil]); first | done | rfl | (simp only [List.length_drop, List.length_take]; rfl)) ?_; (with_reducible refine (field_Product.calls (fun k_ => some k_ = (.slice Ao18 t294.length co18 : Value).ownBlock) _ _ t294 (fun k_ => some k_ = (.slice Ao21 t297.length co21 : Value).ownBlock) _ _ t297 t310 t313 _ ?side1 ?side2 ?side3 A13.out).mono ?_); (case side1 => exact Kd.R_V (Kd.R_tight rfl (HO296.out))); (case side2 => exact Kd.R_V (Kd.R_tight rfl (HO299.out))); (case side3 => repeat (first | exact (Kd.C_below HRT.out HB.out) | (with_reducible refine Kd.C_alloc ?_ _) | (with_reducible refine Kd.C_drewN ?_ _) | (with_reducible refine Kd.C_drew ?_))); rintro e w23 ⟨v311, rfl, ho0, hb⟩; refine ⟨_, rfl, ?_⟩; have HL_1 := Aside0.mk (Lent.below HL_1.out hb); have HL_2 := Aside0.mk (Lent.below HL_2.out hb); have n0_ := Aside0.mk (Kd.R_elder' (by (with_reducible repeat (first | apply Kd.R_alloc | apply Kd.R_drewN | apply Kd.R_drew)); exact HO296.out) (Kd.R_base ho0) hb); have n1_ := Aside0.mk (Kd.R_elder' (by (with_reducible repeat (first | apply Kd.R_alloc | apply Kd.R_drewN | apply Kd.R_drew)); exact HO299.out) (Kd.R_base ho0) hb); have n2_ := Aside0.mk (Kd.R_elder' (by (with_reducible repeat (first | apply Kd.R_alloc | apply Kd.R_drewN | apply Kd.R_drew)); exact HO302.out) (Kd.R_base ho0) hb); have n3_ := Aside0.mk (Kd.R_elder' (by (with_reducible repeat (first | apply Kd.R_alloc | apply Kd.R_drewN | apply Kd.R_drew)); exact HO308.out) (Kd.R_base ho0) hb); have n4_ := Aside0.mk (Kd.R_lower (Kd.R_new' (Kd.R_new' (Kd.R_new' (Kd.R_new' (Kd.R_mono (ok' := fun k_ => True) ho0 (fun _ hk_ => trivial)) (Kd.R_lt (by (with_reducible repeat (first | apply Kd.R_alloc | apply Kd.R_drewN | apply Kd.R_drew)); exact HO296.out))) (Kd.R_lt (by (with_reducible repeat (first | apply Kd.R_alloc | apply Kd.R_drewN | apply Kd.R_drew)); exact HO299.out))) (Kd.R_lt (by (with_reducible repeat (first | apply Kd.R_alloc | apply Kd.R_drewN | apply Kd.R_drew)); exact HO302.out))) (Kd.R_lt (by (with_reducible repeat (first | apply Kd.R_alloc | apply Kd.R_drewN | apply Kd.R_drew)); exact HO308.out))) (below_size (by repeat (first | (with_reducible first | exact HB.out | apply below_alloc | apply pw_below_drewN | apply below_drew1) | exact HB.out)))); have n5_ := Aside0.mk (below_step (by repeat (first | (with_reducible first | exact HB.out | apply below_alloc | apply pw_below_drewN | apply below_drew1) | exact HB.out)) hb); clear HO296; clear HO299; clear HO302; clear HO308; clear HB; have HO296 := n0_; have HO299 := n1_; have HO302 := n2_; have HO308 := n3_; have HO312 := n4_; have HB := n5_; clear n0_ n1_ n2_ n3_ n4_ n5_; (try clear hb); (try clear hb2); (try clear hk); (try clear hi); (try clear ho0)) | ((with_reducible refine gate_callee (f := 17) rfl ?_); refine goesL_ (some 61) rfl rfl Tryd.func17 (by kernel_rfl) rfl #[.slice Ao18 t294.length co18, .slice Ao21 t297.length co21] rfl (by (try simp only [List.map_toArray, List.map_cons, List.map_nil]); first | done | rfl | (simp only [List.length_drop, List.length_take]; rfl)) ?_; (with_reducible refine (field_Divide.calls kj2 (fun k_ => some k_ = (.slice Ao18 t294.length co18 : Value).ownBlock) _ _ t294 (fun k_ => some k_ = (.slice Ao21 t297.length co21 : Value).ownBlock) _ _ t297 t314 t317 t320 _ ?side1 ?side2 ?side3 A14.out).mono ?_); (case side1 => exact Kd.R_V (Kd.R_tight rfl (HO296.out))); (case side2 => exact Kd.R_V (Kd.R_tight rfl (HO299.out))); (case side3 => repeat (first | exact (Kd.C_below HRT.out HB.out) | (with_reducible refine Kd.C_alloc ?_ _) | (with_reducible refine Kd.C_drewN ?_ _) | (with_reducible refine Kd.C_drew ?_))); rintro e w24 ⟨v315, v318, rfl, ho0, ho1, hb⟩; refine ⟨_, rfl, ?_⟩; have HL_1 := Aside0.mk (Lent.below HL_1.out hb); have HL_2 := Aside0.mk (Lent.below HL_2.out hb); have n0_ := Aside0.mk (Kd.R_mono (Kd.R_told (Kd.R_told (Kd.R_old (by (with_reducible repeat (first | apply Kd.R_alloc | apply Kd.R_drewN | apply Kd.R_drew)); exact HO296.out) hb) (Kd.R_base ho0)) (Kd.R_base ho1)) (fun _ h_ => h_.1)); have n1_ := Aside0.mk (Kd.R_mono (Kd.R_told (Kd.R_told (Kd.R_old (by (with_reducible repeat (first | apply Kd.R_alloc | apply Kd.R_drewN | apply Kd.R_drew)); exact HO299.out) hb) (Kd.R_base ho0)) (Kd.R_base ho1)) (fun _ h_ => h_.1)); have n2_ := Aside0.mk (Kd.R_mono (Kd.R_told (Kd.R_told (Kd.R_old (by (with_reducible repeat (first | apply Kd.R_alloc | apply Kd.R_drewN | apply Kd.R_drew)); exact HO302.out) hb) (Kd.R_base ho0)) (Kd.R_base ho1)) (fun _ h_ => h_.1)); have n3_ := Aside0.mk (Kd.R_mono (Kd.R_told (Kd.R_told (Kd.R_old (by (with_reducible repeat (first | apply Kd.R_alloc | apply Kd.R_drewN | apply Kd.R_drew)); exact HO308.out) hb) (Kd.R_base ho0)) (Kd.R_base ho1)) (fun _ h_ => h_.1)); have n4_ := Aside0.mk (Kd.R_mono (Kd.R_told (Kd.R_told (Kd.R_old (by (with_reducible repeat (first | apply Kd.R_alloc | apply Kd.R_drewN | apply Kd.R_drew)); exact HO312.out) hb) (Kd.R_base ho0)) (Kd.R_base ho1)) (fun _ h_ => h_.1)); have n5_ := Aside0.mk (Kd.R_lower (Kd.R_new' (Kd.R_new' (Kd.R_new' (Kd.R_new' (Kd.R_new' (Kd.R_mono (ok' := fun k_ => some k_ ≠ (v318 : Value).ownBlock) ho0 (fun _ hk_ => hk_.2)) (Kd.R_lt (by (with_reducible repeat (first | apply Kd.R_alloc | apply Kd.R_drewN | apply Kd.R_drew)); exact HO296.out))) (Kd.R_lt (by (with_reducible repeat (first | apply Kd.R_alloc | apply Kd.R_drewN | apply Kd.R_drew)); exact HO299.out))) (Kd.R_lt (by (with_reducible repeat (first | apply Kd.R_alloc | apply Kd.R_drewN | apply Kd.R_drew)); exact HO302.out))) (Kd.R_lt (by (with_reducible repeat (first | apply Kd.R_alloc | apply Kd.R_drewN | apply Kd.R_drew)); exact HO308.out))) (Kd.R_lt (by (with_reducible repeat (first | apply Kd.R_alloc | apply Kd.R_drewN | apply Kd.R_drew)); exact HO312.out))) (below_size (by repeat (first | (with_reducible first | exact HB.out | apply below_alloc | apply pw_below_drewN | apply below_drew1) | exact HB.out)))); have n6_ := Aside0.mk (Kd.R_lower (Kd.R_new' (Kd.R_new' (Kd.R_new' (Kd.R_new' (Kd.R_new' (Kd.R_mono (ok' := fun k_ => some k_ ≠ (v315 : Value).ownBlock) ho1 (fun _ hk_ => hk_.2)) (Kd.R_lt (by (with_reducible repeat (first | apply Kd.R_alloc | apply Kd.R_drewN | apply Kd.R_drew)); exact HO296.out))) (Kd.R_lt (by (with_reducible repeat (first | apply Kd.R_alloc | apply Kd.R_drewN | apply Kd.R_drew)); exact HO299.out))) (Kd.R_lt (by (with_reducible repeat (first | apply Kd.R_alloc | apply Kd.R_drewN | apply Kd.R_drew)); exact HO302.out))) (Kd.R_lt (by (with_reducible repeat (first | apply Kd.R_alloc | apply Kd.R_drewN | apply Kd.R_drew)); exact HO308.out))) (Kd.R_lt (by (with_reducible repeat (first | apply Kd.R_alloc | apply Kd.R_drewN | apply Kd.R_drew)); exact HO312.out))) (below_size (by repeat (first | (with_reducible first | exact HB.out | apply below_alloc | apply pw_below_drewN | apply below_drew1) | exact HB.out)))); have n7_ := Aside0.mk (below_step (by repeat (first | (with_reducible first | exact HB.out | apply below_alloc | apply pw_below_drewN | apply below_drew1) | exact HB.out)) hb); clear HO296; clear HO299; clear HO302; clear HO308; clear HO312; clear HB; have HO296 := n0_; have HO299 := n1_; have HO302 := n2_; have HO308 := n3_; have HO312 := n4_; have HO316 := n5_; have HO319 := n6_; have HB := n7_; clear n0_ n1_ n2_ n3_ n4_ n5_ n6_ n7_; (try clear hb); (try clear hb2); (try clear hk); (try clear hi); (try clear ho0); (try clear ho1)))
        (try simp only [Act.put, List.setIfInBounds_toArray, List.set_cons_zero, List.set_cons_succ])
        have HC_1 := Aside0.mk (lent_cap HL_1.out)
        have HC_2 := Aside0.mk (lent_cap HL_2.out)
        go_cut [74] (fun v74 wc => ∃ (kq : Nat) (x74_14 : Bool), v74 = .bool x74_14 ∧ Aside0 (letterbaglaw18_FieldPolys.j1 kq l0 l1 t294 t297 t300 t303 t304 t305 t306 t309 t310 t313 t314 t317 t320 x74_14 = some true) ∧ Aside0 (kq ≤ kj2) ∧ Aside0 (Kd.R (Kd.int .u8) 5 wc w.heap.size (fun k_ => some k_ ≠ ((.slice Ao21 t297.length co21) : Value).ownBlock ∧ some k_ ≠ (v301 : Value).ownBlock ∧ some k_ ≠ (v307 : Value).ownBlock ∧ some k_ ≠ (v311 : Value).ownBlock ∧ some k_ ≠ (v315 : Value).ownBlock ∧ some k_ ≠ (v318 : Value).ownBlock) (.slice Ao18 t294.length co18) t294) ∧ Aside0 (Kd.R (Kd.int .u8) 5 wc w.heap.size (fun k_ => some k_ ≠ ((.slice Ao18 t294.length co18) : Value).ownBlock ∧ some k_ ≠ (v301 : Value).ownBlock ∧ some k_ ≠ (v307 : Value).ownBlock ∧ some k_ ≠ (v311 : Value).ownBlock ∧ some k_ ≠ (v315 : Value).ownBlock ∧ some k_ ≠ (v318 : Value).ownBlock) (.slice Ao21 t297.length co21) t297) ∧ Aside0 (Kd.R (Kd.int .u8) 5 wc w.heap.size (fun k_ => some k_ ≠ ((.slice Ao18 t294.length co18) : Value).ownBlock ∧ some k_ ≠ ((.slice Ao21 t297.length co21) : Value).ownBlock ∧ some k_ ≠ (v307 : Value).ownBlock ∧ some k_ ≠ (v311 : Value).ownBlock ∧ some k_ ≠ (v315 : Value).ownBlock ∧ some k_ ≠ (v318 : Value).ownBlock) v301 t300) ∧ Aside0 (Kd.R (Kd.int .u8) 5 wc w.heap.size (fun k_ => some k_ ≠ ((.slice Ao18 t294.length co18) : Value).ownBlock ∧ some k_ ≠ ((.slice Ao21 t297.length co21) : Value).ownBlock ∧ some k_ ≠ (v301 : Value).ownBlock ∧ some k_ ≠ (v311 : Value).ownBlock ∧ some k_ ≠ (v315 : Value).ownBlock ∧ some k_ ≠ (v318 : Value).ownBlock) v307 t306) ∧ Aside0 (Kd.R (Kd.int .u8) 5 wc w.heap.size (fun k_ => some k_ ≠ ((.slice Ao18 t294.length co18) : Value).ownBlock ∧ some k_ ≠ ((.slice Ao21 t297.length co21) : Value).ownBlock ∧ some k_ ≠ (v301 : Value).ownBlock ∧ some k_ ≠ (v307 : Value).ownBlock ∧ some k_ ≠ (v315 : Value).ownBlock ∧ some k_ ≠ (v318 : Value).ownBlock) v311 t310) ∧ Aside0 (Kd.R (Kd.int .u8) 5 wc w.heap.size (fun k_ => some k_ ≠ ((.slice Ao18 t294.length co18) : Value).ownBlock ∧ some k_ ≠ ((.slice Ao21 t297.length co21) : Value).ownBlock ∧ some k_ ≠ (v301 : Value).ownBlock ∧ some k_ ≠ (v307 : Value).ownBlock ∧ some k_ ≠ (v311 : Value).ownBlock ∧ some k_ ≠ (v318 : Value).ownBlock) v315 t314) ∧ Aside0 (Kd.R (Kd.int .u8) 5 wc w.heap.size (fun k_ => some k_ ≠ ((.slice Ao18 t294.length co18) : Value).ownBlock ∧ some k_ ≠ ((.slice Ao21 t297.length co21) : Value).ownBlock ∧ some k_ ≠ (v301 : Value).ownBlock ∧ some k_ ≠ (v307 : Value).ownBlock ∧ some k_ ≠ (v311 : Value).ownBlock ∧ some k_ ≠ (v315 : Value).ownBlock) v318 t317) ∧ Aside0 (Below w.heap.size w wc))
        case first =>
          have H := HC15.out
          clear HC15
          replace H := Option.bind_eq_some_iff.mp H
          obtain ⟨t321, A250, H⟩ := H
          replace H : (if t321 = true then ((letterbagkit_KeptBytes.f t297 l1).bind fun t322 => (letterbaglaw18_FieldPolys.j1 kj2 l0 l1 t294 t297 t300 t303 t304 t305 t306 t309 t310 t313 t314 t317 t320 (!t322))) else (letterbaglaw18_FieldPolys.j1 kj2 l0 l1 t294 t297 t300 t303 t304 t305 t306 t309 t310 t313 t314 t317 t320 true)) = some true := H
          have A25 := Aside0.mk A250
          clear A250
          by_cases c26 : t321 = true
          · subst c26
            have H1 : ((letterbagkit_KeptBytes.f t297 l1).bind fun t322 => (letterbaglaw18_FieldPolys.j1 kj2 l0 l1 t294 t297 t300 t303 t304 t305 t306 t309 t310 t313 t314 t317 t320 (!t322))) = some true := by rw [if_pos rfl] at H; exact H
            clear H
            have H := H1
            clear H1
            replace H := Option.bind_eq_some_iff.mp H
            obtain ⟨t322, A270, H⟩ := H
            replace H : (letterbaglaw18_FieldPolys.j1 kj2 l0 l1 t294 t297 t300 t303 t304 t305 t306 t309 t310 t313 t314 t317 t320 (!t322)) = some true := H
            have A27 := Aside0.mk A270
            clear A270
            have H' := Aside0.mk H
            clear H
            go_wp2_with (first | ((with_reducible refine gate_callee (f := 18) rfl ?_); refine goesL_ (some 67) rfl rfl Tryd.func18 (by kernel_rfl) rfl #[.slice Ao18 t294.length co18, .slice A0 l0.length c0] rfl (by (try simp only [List.map_toArray, List.map_cons, List.map_nil]); first | done | rfl | (simp only [List.length_drop, List.length_take]; rfl)) ?_; (with_reducible refine (letterbagkit_KeptBytes.calls _ _ t294 _ _ l0 true _ ?side1 ?side3 ?side4 A25.out).mono ?_); (case side1 => exact HL_1.out); (case side3 => repeat (first | exact (Kd.C_below HR0.out HB.out) | (with_reducible refine Kd.C_alloc ?_ _) | (with_reducible refine Kd.C_drewN ?_ _) | (with_reducible refine Kd.C_drew ?_))); (case side4 => exact HC0.out); rintro e w28 ⟨rfl, hb⟩; refine ⟨_, rfl, ?_⟩; have HL_1 := Aside0.mk (Lent.below HL_1.out hb); have HL_2 := Aside0.mk (Lent.below HL_2.out hb); have n0_ := Aside0.mk (Kd.R_below (by (with_reducible repeat (first | apply Kd.R_alloc | apply Kd.R_drewN | apply Kd.R_drew)); exact HO296.out) hb); have n1_ := Aside0.mk (Kd.R_below (by (with_reducible repeat (first | apply Kd.R_alloc | apply Kd.R_drewN | apply Kd.R_drew)); exact HO299.out) hb); have n2_ := Aside0.mk (Kd.R_below (by (with_reducible repeat (first | apply Kd.R_alloc | apply Kd.R_drewN | apply Kd.R_drew)); exact HO302.out) hb); have n3_ := Aside0.mk (Kd.R_below (by (with_reducible repeat (first | apply Kd.R_alloc | apply Kd.R_drewN | apply Kd.R_drew)); exact HO308.out) hb); have n4_ := Aside0.mk (Kd.R_below (by (with_reducible repeat (first | apply Kd.R_alloc | apply Kd.R_drewN | apply Kd.R_drew)); exact HO312.out) hb); have n5_ := Aside0.mk (Kd.R_below (by (with_reducible repeat (first | apply Kd.R_alloc | apply Kd.R_drewN | apply Kd.R_drew)); exact HO316.out) hb); have n6_ := Aside0.mk (Kd.R_below (by (with_reducible repeat (first | apply Kd.R_alloc | apply Kd.R_drewN | apply Kd.R_drew)); exact HO319.out) hb); have n7_ := Aside0.mk (below_step (by repeat (first | (with_reducible first | exact HB.out | apply below_alloc | apply pw_below_drewN | apply below_drew1) | exact HB.out)) hb); clear HO296; clear HO299; clear HO302; clear HO308; clear HO312; clear HO316; clear HO319; clear HB; have HO296 := n0_; have HO299 := n1_; have HO302 := n2_; have HO308 := n3_; have HO312 := n4_; have HO316 := n5_; have HO319 := n6_; have HB := n7_; clear n0_ n1_ n2_ n3_ n4_ n5_ n6_ n7_; (try clear hb); (try clear hb2); (try clear hk); (try clear hi)) | (go_at_call 18; (with_reducible refine (letterbagkit_KeptBytes.calls _ _ t297 _ _ l1 t322 _ ?side1 ?side3 ?side4 A27.out).mono ?_); (case side1 => exact HL_2.out); (case side3 => repeat (first | exact (Kd.C_below HR1.out HB.out) | (with_reducible refine Kd.C_alloc ?_ _) | (with_reducible refine Kd.C_drewN ?_ _) | (with_reducible refine Kd.C_drew ?_))); (case side4 => exact HC1.out); rintro e w29 ⟨rfl, hb⟩; have HL_1 := Aside0.mk (Lent.below HL_1.out hb); have HL_2 := Aside0.mk (Lent.below HL_2.out hb); have n0_ := Aside0.mk (Kd.R_below (by (with_reducible repeat (first | apply Kd.R_alloc | apply Kd.R_drewN | apply Kd.R_drew)); exact HO296.out) hb); have n1_ := Aside0.mk (Kd.R_below (by (with_reducible repeat (first | apply Kd.R_alloc | apply Kd.R_drewN | apply Kd.R_drew)); exact HO299.out) hb); have n2_ := Aside0.mk (Kd.R_below (by (with_reducible repeat (first | apply Kd.R_alloc | apply Kd.R_drewN | apply Kd.R_drew)); exact HO302.out) hb); have n3_ := Aside0.mk (Kd.R_below (by (with_reducible repeat (first | apply Kd.R_alloc | apply Kd.R_drewN | apply Kd.R_drew)); exact HO308.out) hb); have n4_ := Aside0.mk (Kd.R_below (by (with_reducible repeat (first | apply Kd.R_alloc | apply Kd.R_drewN | apply Kd.R_drew)); exact HO312.out) hb); have n5_ := Aside0.mk (Kd.R_below (by (with_reducible repeat (first | apply Kd.R_alloc | apply Kd.R_drewN | apply Kd.R_drew)); exact HO316.out) hb); have n6_ := Aside0.mk (Kd.R_below (by (with_reducible repeat (first | apply Kd.R_alloc | apply Kd.R_drewN | apply Kd.R_drew)); exact HO319.out) hb); have n7_ := Aside0.mk (below_step (by repeat (first | (with_reducible first | exact HB.out | apply below_alloc | apply pw_below_drewN | apply below_drew1) | exact HB.out)) hb); clear HO296; clear HO299; clear HO302; clear HO308; clear HO312; clear HO316; clear HO319; clear HB; have HO296 := n0_; have HO299 := n1_; have HO302 := n2_; have HO308 := n3_; have HO312 := n4_; have HO316 := n5_; have HO319 := n6_; have HB := n7_; clear n0_ n1_ n2_ n3_ n4_ n5_ n6_ n7_; (try clear hb); (try clear hb2); (try clear hk); (try clear hi)))
            go_meet
            case rel => exact ⟨_, (!t322), (by first | rfl | (simp; done) | (simp [*]; done)), H', ⟨by have := HJ2.out; first | omega | exact Nat.le_refl _⟩, ⟨by (with_reducible repeat (first | apply Kd.R_alloc | apply Kd.R_drewN | apply Kd.R_drew)); exact Kd.R_mono HO296.out (fun _ hk => ⟨hk.1.1.1.1.1.2, ⟨hk.1.1.1.1.2, ⟨hk.1.1.1.2, ⟨hk.1.1.2, ⟨hk.1.2, hk.2⟩⟩⟩⟩⟩)⟩, ⟨by (with_reducible repeat (first | apply Kd.R_alloc | apply Kd.R_drewN | apply Kd.R_drew)); exact Kd.R_mono HO299.out (fun _ hk => ⟨hk.1.1.1.1.1.2, ⟨hk.1.1.1.1.2, ⟨hk.1.1.1.2, ⟨hk.1.1.2, ⟨hk.1.2, hk.2⟩⟩⟩⟩⟩)⟩, ⟨by (with_reducible repeat (first | apply Kd.R_alloc | apply Kd.R_drewN | apply Kd.R_drew)); exact Kd.R_mono HO302.out (fun _ hk => ⟨hk.1.1.1.1.1.2, ⟨hk.1.1.1.1.2, ⟨hk.1.1.1.2, ⟨hk.1.1.2, ⟨hk.1.2, hk.2⟩⟩⟩⟩⟩)⟩, ⟨by (with_reducible repeat (first | apply Kd.R_alloc | apply Kd.R_drewN | apply Kd.R_drew)); exact Kd.R_mono HO308.out (fun _ hk => ⟨hk.1.1.1.1.1.2, ⟨hk.1.1.1.1.2, ⟨hk.1.1.1.2, ⟨hk.1.1.2, ⟨hk.1.2, hk.2⟩⟩⟩⟩⟩)⟩, ⟨by (with_reducible repeat (first | apply Kd.R_alloc | apply Kd.R_drewN | apply Kd.R_drew)); exact Kd.R_mono HO312.out (fun _ hk => ⟨hk.1.1.1.1.1.2, ⟨hk.1.1.1.1.2, ⟨hk.1.1.1.2, ⟨hk.1.1.2, ⟨hk.1.2, hk.2⟩⟩⟩⟩⟩)⟩, ⟨by (with_reducible repeat (first | apply Kd.R_alloc | apply Kd.R_drewN | apply Kd.R_drew)); exact Kd.R_mono HO316.out (fun _ hk => ⟨hk.1.1.1.1.2, ⟨hk.1.1.1.2, ⟨hk.1.1.2, ⟨hk.1.2, ⟨hk.2, hk.1.1.1.1.1⟩⟩⟩⟩⟩)⟩, ⟨by (with_reducible repeat (first | apply Kd.R_alloc | apply Kd.R_drewN | apply Kd.R_drew)); exact Kd.R_mono HO319.out (fun _ hk => ⟨hk.1.1.1.1.2, ⟨hk.1.1.1.2, ⟨hk.1.1.2, ⟨hk.1.2, ⟨hk.2, hk.1.1.1.1.1⟩⟩⟩⟩⟩)⟩, ⟨by repeat (first | (with_reducible first | exact HB.out | apply below_alloc | apply pw_below_drewN | apply below_drew1) | exact HB.out)⟩⟩
          · replace c26 := Bool.eq_false_iff.mpr c26
            subst c26
            have H1 : (letterbaglaw18_FieldPolys.j1 kj2 l0 l1 t294 t297 t300 t303 t304 t305 t306 t309 t310 t313 t314 t317 t320 true) = some true := by rw [if_neg (show ¬ (false = true) by decide)] at H; exact H
            clear H
            have H := H1
            clear H1
            exact (no_j1 _ _ _ _ _ _ _ _ _ _ _ _ _ _ _ _ H).elim
        case rest =>
          clear HC15
          try clear c1
          try clear c2
          try clear p2
          try clear c3
          try clear c4
          try clear c4b0
          try clear c4b1
          try clear c5
          try clear c11
          try clear c12
          try clear c13
          try clear c14
          try clear c15
          try clear c16
          try clear c17
          try clear c18
          try clear c26
          try clear p2
          obtain ⟨kq, x74_14, rfl, HA, HJ14, HO_5, HO_6, HO_7, HO_11, HO_13, HO_15, HO_16, HB⟩ := hcut
          cases kq with
          | zero => exact absurd HA.out (by simp [letterbaglaw18_FieldPolys.j1])
          | succ kj14 =>
            have H := HA.out
            clear HA
            simp only [letterbaglaw18_FieldPolys.j1] at H
            by_cases c31 : x74_14 = true
            · subst c31
              have H1 : (some false) = some true := by rw [if_pos rfl] at H; exact H
              exact absurd H1 (by decide)
            · replace c31 := Bool.eq_false_iff.mpr c31
              subst c31
              have H1 : ((letterbagkit_OverBytes.f t294).bind fun _ => ((letterbagkit_OverBytes.f t297).bind fun _ => ((letterbagref18_Error.f kj14 l0 ([] : List Int)).bind fun t323 => ((letterbagref18_Error.f kj14 l0 l1).bind fun t324 => (if t303 = t323 then (if t305 = t303 then (letterbaglaw18_FieldPolys.j2 kj14 l0 l1 t300 t304 t306 t310 t313 t314 t317 t320 t323 t324 (t309 != t324)) else (letterbaglaw18_FieldPolys.j2 kj14 l0 l1 t300 t304 t306 t310 t313 t314 t317 t320 t323 t324 true)) else (letterbaglaw18_FieldPolys.j2 kj14 l0 l1 t300 t304 t306 t310 t313 t314 t317 t320 t323 t324 true)))))) = some true := by rw [if_neg (show ¬ (false = true) by decide)] at H; exact H
              clear H
              have H := H1
              clear H1
              replace H := Option.bind_eq_some_iff.mp H
              obtain ⟨_, A320, H⟩ := H
              replace H : ((letterbagkit_OverBytes.f t297).bind fun _ => ((letterbagref18_Error.f kj14 l0 ([] : List Int)).bind fun t323 => ((letterbagref18_Error.f kj14 l0 l1).bind fun t324 => (if t303 = t323 then (if t305 = t303 then (letterbaglaw18_FieldPolys.j2 kj14 l0 l1 t300 t304 t306 t310 t313 t314 t317 t320 t323 t324 (t309 != t324)) else (letterbaglaw18_FieldPolys.j2 kj14 l0 l1 t300 t304 t306 t310 t313 t314 t317 t320 t323 t324 true)) else (letterbaglaw18_FieldPolys.j2 kj14 l0 l1 t300 t304 t306 t310 t313 t314 t317 t320 t323 t324 true))))) = some true := H
              have A32 := Aside0.mk A320
              clear A320
              replace H := Option.bind_eq_some_iff.mp H
              obtain ⟨_, A330, H⟩ := H
              replace H : ((letterbagref18_Error.f kj14 l0 ([] : List Int)).bind fun t323 => ((letterbagref18_Error.f kj14 l0 l1).bind fun t324 => (if t303 = t323 then (if t305 = t303 then (letterbaglaw18_FieldPolys.j2 kj14 l0 l1 t300 t304 t306 t310 t313 t314 t317 t320 t323 t324 (t309 != t324)) else (letterbaglaw18_FieldPolys.j2 kj14 l0 l1 t300 t304 t306 t310 t313 t314 t317 t320 t323 t324 true)) else (letterbaglaw18_FieldPolys.j2 kj14 l0 l1 t300 t304 t306 t310 t313 t314 t317 t320 t323 t324 true)))) = some true := H
              have A33 := Aside0.mk A330
              clear A330
              replace H := Option.bind_eq_some_iff.mp H
              obtain ⟨t323, A340, H⟩ := H
              replace H : ((letterbagref18_Error.f kj14 l0 l1).bind fun t324 => (if t303 = t323 then (if t305 = t303 then (letterbaglaw18_FieldPolys.j2 kj14 l0 l1 t300 t304 t306 t310 t313 t314 t317 t320 t323 t324 (t309 != t324)) else (letterbaglaw18_FieldPolys.j2 kj14 l0 l1 t300 t304 t306 t310 t313 t314 t317 t320 t323 t324 true)) else (letterbaglaw18_FieldPolys.j2 kj14 l0 l1 t300 t304 t306 t310 t313 t314 t317 t320 t323 t324 true))) = some true := H
              have A34 := Aside0.mk A340
              clear A340
              replace H := Option.bind_eq_some_iff.mp H
              obtain ⟨t324, A350, H⟩ := H
              replace H : (if t303 = t323 then (if t305 = t303 then (letterbaglaw18_FieldPolys.j2 kj14 l0 l1 t300 t304 t306 t310 t313 t314 t317 t320 t323 t324 (t309 != t324)) else (letterbaglaw18_FieldPolys.j2 kj14 l0 l1 t300 t304 t306 t310 t313 t314 t317 t320 t323 t324 true)) else (letterbaglaw18_FieldPolys.j2 kj14 l0 l1 t300 t304 t306 t310 t313 t314 t317 t320 t323 t324 true)) = some true := H
              have A35 := Aside0.mk A350
              clear A350
              have HC36 := Aside0.mk H
              clear H
              go_upto_region 14 with (first | ((with_reducible refine gate_callee (f := 19) rfl ?_); refine goesL_ (some 76) rfl rfl Tryd.func19 (by kernel_rfl) rfl #[.slice Ao18 t294.length co18] rfl (by (try simp only [List.map_toArray, List.map_cons, List.map_nil]); first | done | rfl | (simp only [List.length_drop, List.length_take]; rfl)) ?_; (with_reducible refine (letterbagkit_OverBytes.calls _ _ _ _ t294 _ HO_5.out HC_1.out A32.out).mono ?_); rintro e w37 ⟨rfl, hg⟩; refine ⟨_, rfl, ?_⟩; have n0_ := Aside0.mk (fun k hk => Nat.lt_of_lt_of_le (Kd.R_lt HO_5.out k hk) hg.size); have n1_ := Aside0.mk (Kd.R_grown HO_6.out hg (fun _ hk => by first | exact hk.1 | exact hk.2.1 | exact hk.2.2.1 | exact hk.2.2.2.1)); have n2_ := Aside0.mk (Kd.R_grown HO_7.out hg (fun _ hk => by first | exact hk.1 | exact hk.2.1 | exact hk.2.2.1 | exact hk.2.2.2.1)); have n3_ := Aside0.mk (Kd.R_grown HO_11.out hg (fun _ hk => by first | exact hk.1 | exact hk.2.1 | exact hk.2.2.1 | exact hk.2.2.2.1)); have n4_ := Aside0.mk (Kd.R_grown HO_13.out hg (fun _ hk => by first | exact hk.1 | exact hk.2.1 | exact hk.2.2.1 | exact hk.2.2.2.1)); have n5_ := Aside0.mk (Kd.R_grown HO_15.out hg (fun _ hk => by first | exact hk.1 | exact hk.2.1 | exact hk.2.2.1 | exact hk.2.2.2.1)); have n6_ := Aside0.mk (Kd.R_grown HO_16.out hg (fun _ hk => by first | exact hk.1 | exact hk.2.1 | exact hk.2.2.1 | exact hk.2.2.2.1)); have n7_ := Aside0.mk (over_below HB.out hg (Kd.R_base HO_5.out)); clear HO_5; clear HO_6; clear HO_7; clear HO_11; clear HO_13; clear HO_15; clear HO_16; clear HB; have HO_5 := n0_; have HO_6 := n1_; have HO_7 := n2_; have HO_11 := n3_; have HO_13 := n4_; have HO_15 := n5_; have HO_16 := n6_; have HB := n7_; clear n0_ n1_ n2_ n3_ n4_ n5_ n6_ n7_; (try clear hg); (try clear hb2); (try clear hk); (try clear hi)) | ((with_reducible refine gate_callee (f := 19) rfl ?_); refine goesL_ (some 78) rfl rfl Tryd.func19 (by kernel_rfl) rfl #[.slice Ao21 t297.length co21] rfl (by (try simp only [List.map_toArray, List.map_cons, List.map_nil]); first | done | rfl | (simp only [List.length_drop, List.length_take]; rfl)) ?_; (with_reducible refine (letterbagkit_OverBytes.calls _ _ _ _ t297 _ HO_6.out HC_2.out A33.out).mono ?_); rintro e w38 ⟨rfl, hg⟩; refine ⟨_, rfl, ?_⟩; have n0_ := Aside0.mk (fun k hk => Nat.lt_of_lt_of_le (HO_5.out k hk) hg.size); have n1_ := Aside0.mk (fun k hk => Nat.lt_of_lt_of_le (Kd.R_lt HO_6.out k hk) hg.size); have n2_ := Aside0.mk (Kd.R_grown HO_7.out hg (fun _ hk => by first | exact hk.1 | exact hk.2.1 | exact hk.2.2.1 | exact hk.2.2.2.1)); have n3_ := Aside0.mk (Kd.R_grown HO_11.out hg (fun _ hk => by first | exact hk.1 | exact hk.2.1 | exact hk.2.2.1 | exact hk.2.2.2.1)); have n4_ := Aside0.mk (Kd.R_grown HO_13.out hg (fun _ hk => by first | exact hk.1 | exact hk.2.1 | exact hk.2.2.1 | exact hk.2.2.2.1)); have n5_ := Aside0.mk (Kd.R_grown HO_15.out hg (fun _ hk => by first | exact hk.1 | exact hk.2.1 | exact hk.2.2.1 | exact hk.2.2.2.1)); have n6_ := Aside0.mk (Kd.R_grown HO_16.out hg (fun _ hk => by first | exact hk.1 | exact hk.2.1 | exact hk.2.2.1 | exact hk.2.2.2.1)); have n7_ := Aside0.mk (over_below HB.out hg (Kd.R_base HO_6.out)); clear HO_5; clear HO_6; clear HO_7; clear HO_11; clear HO_13; clear HO_15; clear HO_16; clear HB; have HO_5 := n0_; have HO_6 := n1_; have HO_7 := n2_; have HO_11 := n3_; have HO_13 := n4_; have HO_15 := n5_; have HO_16 := n6_; have HB := n7_; clear n0_ n1_ n2_ n3_ n4_ n5_ n6_ n7_; (try clear hg); (try clear hb2); (try clear hk); (try clear hi)) | ((with_reducible refine gate_callee (f := 20) rfl ?_); refine goesL_ (some 80) rfl rfl Tryd.func20 (by kernel_rfl) rfl #[.slice A0 l0.length c0, .slice none 0 0] rfl (by (try simp only [List.map_toArray, List.map_cons, List.map_nil]); first | done | rfl | (simp only [List.length_drop, List.length_take]; rfl)) ?_; (refine (letterbagref18_Error.calls kj14 _ _ l0 _ _ ([] : List Int) t323 _ ?side1 ?side2 ?side3 ?side4 A34.out).mono ?_); (case side1 => repeat (first | exact (Kd.C_below HR0.out HB.out) | (with_reducible refine Kd.C_alloc ?_ _) | (with_reducible refine Kd.C_drewN ?_ _) | (with_reducible refine Kd.C_drew ?_))); (case side2 => exact HC0.out); (case side3 => exact Kd.C_nil _ _); (case side4 => exact Nat.le_refl _); rintro e w' ⟨rfl, ⟨nd, rfl⟩⟩; refine ⟨_, rfl, ?_⟩) | ((with_reducible refine gate_callee (f := 20) rfl ?_); refine goesL_ (some 83) rfl rfl Tryd.func20 (by kernel_rfl) rfl #[.slice A0 l0.length c0, .slice A1 l1.length c1] rfl (by (try simp only [List.map_toArray, List.map_cons, List.map_nil]); first | done | rfl | (simp only [List.length_drop, List.length_take]; rfl)) ?_; (with_reducible refine (letterbagref18_Error.calls kj14 _ _ l0 _ _ l1 t324 _ ?side1 ?side2 ?side3 ?side4 A35.out).mono ?_); (case side1 => repeat (first | exact (Kd.C_below HR0.out (by repeat (first | (with_reducible first | exact HB.out | apply below_alloc | apply pw_below_drewN | apply below_drew1) | exact HB.out))) | (with_reducible refine Kd.C_alloc ?_ _) | (with_reducible refine Kd.C_drewN ?_ _) | (with_reducible refine Kd.C_drew ?_))); (case side2 => exact HC0.out); (case side3 => repeat (first | exact (Kd.C_below HR1.out (by repeat (first | (with_reducible first | exact HB.out | apply below_alloc | apply pw_below_drewN | apply below_drew1) | exact HB.out))) | (with_reducible refine Kd.C_alloc ?_ _) | (with_reducible refine Kd.C_drewN ?_ _) | (with_reducible refine Kd.C_drew ?_))); (case side4 => exact HC1.out); rintro e w' ⟨rfl, ⟨nd, rfl⟩⟩; refine ⟨_, rfl, ?_⟩))
              (try simp only [Act.put, List.setIfInBounds_toArray, List.set_cons_zero, List.set_cons_succ])
              go_cut [96] (fun v96 wc => ∃ (kq : Nat) (x96_35 : Bool), v96 = .bool x96_35 ∧ Aside0 (letterbaglaw18_FieldPolys.j2 kq l0 l1 t300 t304 t306 t310 t313 t314 t317 t320 t323 t324 x96_35 = some true) ∧ Aside0 (kq ≤ kj14) ∧ Aside0 (Kd.R (Kd.int .u8) 5 wc w.heap.size (fun k_ => some k_ ≠ (v307 : Value).ownBlock ∧ some k_ ≠ (v311 : Value).ownBlock ∧ some k_ ≠ (v315 : Value).ownBlock ∧ some k_ ≠ (v318 : Value).ownBlock) v301 t300) ∧ Aside0 (Kd.R (Kd.int .u8) 5 wc w.heap.size (fun k_ => some k_ ≠ (v301 : Value).ownBlock ∧ some k_ ≠ (v311 : Value).ownBlock ∧ some k_ ≠ (v315 : Value).ownBlock ∧ some k_ ≠ (v318 : Value).ownBlock) v307 t306) ∧ Aside0 (Kd.R (Kd.int .u8) 5 wc w.heap.size (fun k_ => some k_ ≠ (v301 : Value).ownBlock ∧ some k_ ≠ (v307 : Value).ownBlock ∧ some k_ ≠ (v315 : Value).ownBlock ∧ some k_ ≠ (v318 : Value).ownBlock) v311 t310) ∧ Aside0 (Kd.R (Kd.int .u8) 5 wc w.heap.size (fun k_ => some k_ ≠ (v301 : Value).ownBlock ∧ some k_ ≠ (v307 : Value).ownBlock ∧ some k_ ≠ (v311 : Value).ownBlock ∧ some k_ ≠ (v318 : Value).ownBlock) v315 t314) ∧ Aside0 (Kd.R (Kd.int .u8) 5 wc w.heap.size (fun k_ => some k_ ≠ (v301 : Value).ownBlock ∧ some k_ ≠ (v307 : Value).ownBlock ∧ some k_ ≠ (v311 : Value).ownBlock ∧ some k_ ≠ (v315 : Value).ownBlock) v318 t317) ∧ Aside0 (Below w.heap.size w wc))
              case first =>
                have H := HC36.out
                clear HC36
                by_cases c39 : t303 = t323
                · rw [if_pos c39] at H
                  have c39b0 : (t303 == t323) = true := beq_iff_eq.mpr c39
                  have c39b1 : (t303 != t323) = false := bne_eq_false_iff_eq.mpr c39
                  clear c39
                  (first | rw [c39b0] | (simp only [i64_w, i32_w]; rw [c39b0]) | skip)
                  by_cases c40 : t305 = t303
                  · rw [if_pos c40] at H
                    have c40b0 : (t305 == t303) = true := beq_iff_eq.mpr c40
                    have c40b1 : (t305 != t303) = false := bne_eq_false_iff_eq.mpr c40
                    clear c40
                    have H' := Aside0.mk H
                    clear H
                    go_wp2
                    go_meet
                    case rel => exact ⟨_, ((t309 != t324)), (by first | rfl | (simp; done) | (simp [*]; done)), H', ⟨by have := HJ2.out; have := HJ14.out; first | omega | exact Nat.le_refl _⟩, ⟨by (with_reducible repeat (first | apply Kd.R_alloc | apply Kd.R_drewN | apply Kd.R_drew)); exact Kd.R_mono HO_7.out (fun _ hk => ⟨hk.2.2.1, ⟨hk.2.2.2.1, ⟨hk.2.2.2.2.1, hk.2.2.2.2.2⟩⟩⟩)⟩, ⟨by (with_reducible repeat (first | apply Kd.R_alloc | apply Kd.R_drewN | apply Kd.R_drew)); exact Kd.R_mono HO_11.out (fun _ hk => ⟨hk.2.2.1, ⟨hk.2.2.2.1, ⟨hk.2.2.2.2.1, hk.2.2.2.2.2⟩⟩⟩)⟩, ⟨by (with_reducible repeat (first | apply Kd.R_alloc | apply Kd.R_drewN | apply Kd.R_drew)); exact Kd.R_mono HO_13.out (fun _ hk => ⟨hk.2.2.1, ⟨hk.2.2.2.1, ⟨hk.2.2.2.2.1, hk.2.2.2.2.2⟩⟩⟩)⟩, ⟨by (with_reducible repeat (first | apply Kd.R_alloc | apply Kd.R_drewN | apply Kd.R_drew)); exact Kd.R_mono HO_15.out (fun _ hk => ⟨hk.2.2.1, ⟨hk.2.2.2.1, ⟨hk.2.2.2.2.1, hk.2.2.2.2.2⟩⟩⟩)⟩, ⟨by (with_reducible repeat (first | apply Kd.R_alloc | apply Kd.R_drewN | apply Kd.R_drew)); exact Kd.R_mono HO_16.out (fun _ hk => ⟨hk.2.2.1, ⟨hk.2.2.2.1, ⟨hk.2.2.2.2.1, hk.2.2.2.2.2⟩⟩⟩)⟩, ⟨by repeat (first | (with_reducible first | exact HB.out | apply below_alloc | apply pw_below_drewN | apply below_drew1) | exact HB.out)⟩⟩
                  · rw [if_neg c40] at H
                    have c40b0 : (t305 == t303) = false := beq_eq_false_iff_ne.mpr c40
                    have c40b1 : (t305 != t303) = true := bne_iff_ne.mpr c40
                    exact (no_j2 _ _ _ _ _ _ _ _ _ _ _ _ _ H).elim
                · rw [if_neg c39] at H
                  have c39b0 : (t303 == t323) = false := beq_eq_false_iff_ne.mpr c39
                  have c39b1 : (t303 != t323) = true := bne_iff_ne.mpr c39
                  (first | rw [c39b0] | (simp only [i64_w, i32_w]; rw [c39b0]) | skip)
                  exact (no_j2 _ _ _ _ _ _ _ _ _ _ _ _ _ H).elim
              case rest =>
                clear HC36
                try clear c1
                try clear c2
                try clear p2
                try clear c3
                try clear c4
                try clear c4b0
                try clear c4b1
                try clear c5
                try clear c11
                try clear c12
                try clear c13
                try clear c14
                try clear c15
                try clear c16
                try clear c17
                try clear c18
                try clear c19
                try clear c20
                try clear c26
                try clear c31
                try clear c39
                try clear c39b0
                try clear c39b1
                try clear c40
                try clear c40b0
                try clear c40b1
                try clear p2
                obtain ⟨kq, x96_35, rfl, HA, HJ35, HO_7, HO_11, HO_13, HO_15, HO_16, HB⟩ := hcut
                cases kq with
                | zero => exact absurd HA.out (by simp [letterbaglaw18_FieldPolys.j2])
                | succ kj35 =>
                  have H := HA.out
                  clear HA
                  simp only [letterbaglaw18_FieldPolys.j2] at H
                  by_cases c41 : x96_35 = true
                  · subst c41
                    have H1 : (some false) = some true := by rw [if_pos rfl] at H; exact H
                    exact absurd H1 (by decide)
                  · replace c41 := Bool.eq_false_iff.mpr c41
                    subst c41
                    have H1 : (if t323 = 0 then ((letterbagref18_Trim.f kj35 l0).bind fun t325 => ((letterbagkit_SameBytes.f kj35 t300 t325).bind fun t328 => (if t328 = true then ((letterbagref18_Degree.f kj35 l0).bind fun t329 => (if t304 = t329 then (letterbaglaw18_FieldPolys.j3 kj35 l0 l1 t306 t310 t313 t314 t317 t320 t324) else (some false))) else (some false)))) else (if (t300.length : Int) = 0 then (if t304 = 0 then (letterbaglaw18_FieldPolys.j3 kj35 l0 l1 t306 t310 t313 t314 t317 t320 t324) else (some false)) else (some false))) = some true := by rw [if_neg (show ¬ (false = true) by decide)] at H; exact H
                    clear H
                    have H := H1
                    clear H1
                    have HC42 := Aside0.mk H
                    clear H
                    go_upto_if 98 with (fail)
                    go_cut [] (fun wc => ∃ (kq : Nat), Aside0 (letterbaglaw18_FieldPolys.j3 kq l0 l1 t306 t310 t313 t314 t317 t320 t324 = some true) ∧ Aside0 (kq ≤ kj35) ∧ Aside0 (Kd.R (Kd.int .u8) 5 wc w.heap.size (fun k_ => some k_ ≠ (v311 : Value).ownBlock ∧ some k_ ≠ (v315 : Value).ownBlock ∧ some k_ ≠ (v318 : Value).ownBlock) v307 t306) ∧ Aside0 (Kd.R (Kd.int .u8) 5 wc w.heap.size (fun k_ => some k_ ≠ (v307 : Value).ownBlock ∧ some k_ ≠ (v315 : Value).ownBlock ∧ some k_ ≠ (v318 : Value).ownBlock) v311 t310) ∧ Aside0 (Kd.R (Kd.int .u8) 5 wc w.heap.size (fun k_ => some k_ ≠ (v307 : Value).ownBlock ∧ some k_ ≠ (v311 : Value).ownBlock ∧ some k_ ≠ (v318 : Value).ownBlock) v315 t314) ∧ Aside0 (Kd.R (Kd.int .u8) 5 wc w.heap.size (fun k_ => some k_ ≠ (v307 : Value).ownBlock ∧ some k_ ≠ (v311 : Value).ownBlock ∧ some k_ ≠ (v315 : Value).ownBlock) v318 t317) ∧ Aside0 (Below w.heap.size w wc))
                    case first =>
                      have H := HC42.out
                      clear HC42
                      by_cases c43 : t323 = 0
                      · rw [if_pos c43] at H
                        have c43b0 : (t323 == 0) = true := beq_iff_eq.mpr c43
                        have c43b1 : (t323 != 0) = false := bne_eq_false_iff_eq.mpr c43
                        clear c43
                        (first | rw [c43b0] | (simp only [i64_w, i32_w]; rw [c43b0]) | skip)
                        replace H := Option.bind_eq_some_iff.mp H
                        obtain ⟨t325, A440, H⟩ := H
                        replace H : ((letterbagkit_SameBytes.f kj35 t300 t325).bind fun t328 => (if t328 = true then ((letterbagref18_Degree.f kj35 l0).bind fun t329 => (if t304 = t329 then (letterbaglaw18_FieldPolys.j3 kj35 l0 l1 t306 t310 t313 t314 t317 t320 t324) else (some false))) else (some false))) = some true := H
                        have A44 := Aside0.mk A440
                        clear A440
                        replace H := Option.bind_eq_some_iff.mp H
                        obtain ⟨t328, A450, H⟩ := H
                        replace H : (if t328 = true then ((letterbagref18_Degree.f kj35 l0).bind fun t329 => (if t304 = t329 then (letterbaglaw18_FieldPolys.j3 kj35 l0 l1 t306 t310 t313 t314 t317 t320 t324) else (some false))) else (some false)) = some true := H
                        have A45 := Aside0.mk A450
                        clear A450
                        by_cases c46 : t328 = true
                        · subst c46
                          have H1 : ((letterbagref18_Degree.f kj35 l0).bind fun t329 => (if t304 = t329 then (letterbaglaw18_FieldPolys.j3 kj35 l0 l1 t306 t310 t313 t314 t317 t320 t324) else (some false))) = some true := by rw [if_pos rfl] at H; exact H
                          clear H
                          have H := H1
                          clear H1
                          replace H := Option.bind_eq_some_iff.mp H
                          obtain ⟨t329, A470, H⟩ := H
                          replace H : (if t304 = t329 then (letterbaglaw18_FieldPolys.j3 kj35 l0 l1 t306 t310 t313 t314 t317 t320 t324) else (some false)) = some true := H
                          have A47 := Aside0.mk A470
                          clear A470
                          by_cases c48 : t304 = t329
                          · rw [if_pos c48] at H
                            have c48b0 : (t304 == t329) = true := beq_iff_eq.mpr c48
                            have c48b1 : (t304 != t329) = false := bne_eq_false_iff_eq.mpr c48
                            clear c48
                            have H' := Aside0.mk H
                            clear H
                            go_wp2_with (first | ((with_reducible refine gate_callee (f := 22) rfl ?_); refine goesL_ (some 101) rfl rfl Tryd.func22 (by kernel_rfl) rfl #[.slice A0 l0.length c0] rfl (by (try simp only [List.map_toArray, List.map_cons, List.map_nil]); first | done | rfl | (simp only [List.length_drop, List.length_take]; rfl)) ?_; (with_reducible refine (letterbagref18_Trim.calls kj35 _ _ l0 t325 _ ?side1 ?side2 A44.out).mono ?_); (case side1 => repeat (first | exact (Kd.C_below HR0.out HB.out) | (with_reducible refine Kd.C_alloc ?_ _) | (with_reducible refine Kd.C_drewN ?_ _) | (with_reducible refine Kd.C_drew ?_))); (case side2 => exact HC0.out); rintro e w49 ⟨v326, rfl, ho0, hb⟩; refine ⟨_, rfl, ?_⟩; have n0_ := Aside0.mk (Kd.R_elder' (by (with_reducible repeat (first | apply Kd.R_alloc | apply Kd.R_drewN | apply Kd.R_drew)); exact HO_7.out) (Kd.R_base ho0) hb); have n1_ := Aside0.mk (Kd.R_elder' (by (with_reducible repeat (first | apply Kd.R_alloc | apply Kd.R_drewN | apply Kd.R_drew)); exact HO_11.out) (Kd.R_base ho0) hb); have n2_ := Aside0.mk (Kd.R_elder' (by (with_reducible repeat (first | apply Kd.R_alloc | apply Kd.R_drewN | apply Kd.R_drew)); exact HO_13.out) (Kd.R_base ho0) hb); have n3_ := Aside0.mk (Kd.R_elder' (by (with_reducible repeat (first | apply Kd.R_alloc | apply Kd.R_drewN | apply Kd.R_drew)); exact HO_15.out) (Kd.R_base ho0) hb); have n4_ := Aside0.mk (Kd.R_elder' (by (with_reducible repeat (first | apply Kd.R_alloc | apply Kd.R_drewN | apply Kd.R_drew)); exact HO_16.out) (Kd.R_base ho0) hb); have n5_ := Aside0.mk (Kd.R_lower (Kd.R_new' (Kd.R_new' (Kd.R_new' (Kd.R_new' (Kd.R_new' ho0 (Kd.R_lt (by (with_reducible repeat (first | apply Kd.R_alloc | apply Kd.R_drewN | apply Kd.R_drew)); exact HO_7.out))) (Kd.R_lt (by (with_reducible repeat (first | apply Kd.R_alloc | apply Kd.R_drewN | apply Kd.R_drew)); exact HO_11.out))) (Kd.R_lt (by (with_reducible repeat (first | apply Kd.R_alloc | apply Kd.R_drewN | apply Kd.R_drew)); exact HO_13.out))) (Kd.R_lt (by (with_reducible repeat (first | apply Kd.R_alloc | apply Kd.R_drewN | apply Kd.R_drew)); exact HO_15.out))) (Kd.R_lt (by (with_reducible repeat (first | apply Kd.R_alloc | apply Kd.R_drewN | apply Kd.R_drew)); exact HO_16.out))) (below_size (by repeat (first | (with_reducible first | exact HB.out | apply below_alloc | apply pw_below_drewN | apply below_drew1) | exact HB.out)))); have n6_ := Aside0.mk (below_step (by repeat (first | (with_reducible first | exact HB.out | apply below_alloc | apply pw_below_drewN | apply below_drew1) | exact HB.out)) hb); clear HO_7; clear HO_11; clear HO_13; clear HO_15; clear HO_16; clear HB; have HO_7 := n0_; have HO_11 := n1_; have HO_13 := n2_; have HO_15 := n3_; have HO_16 := n4_; have HO327 := n5_; have HB := n6_; clear n0_ n1_ n2_ n3_ n4_ n5_ n6_; (try clear hb); (try clear hb2); (try clear hk); (try clear hi); (try clear ho0); obtain ⟨Ao50, co50, eo50⟩ := Kd.R_slice HO_7.out; subst eo50; obtain ⟨Ao51, co51, eo51⟩ := Kd.R_slice HO327.out; subst eo51) | ((with_reducible refine gate_callee (f := 21) rfl ?_); refine goesL_ (some 102) rfl rfl Tryd.func21 (by kernel_rfl) rfl #[.slice Ao50 t300.length co50, .slice Ao51 t325.length co51] rfl (by (try simp only [List.map_toArray, List.map_cons, List.map_nil]); first | done | rfl | (simp only [List.length_drop, List.length_take]; rfl)) ?_; (with_reducible refine (letterbagkit_SameBytes.calls kj35 _ _ t300 _ _ t325 true _ ?side1 ?side2 ?side3 ?side4 A45.out).mono ?_); (case side1 => repeat (first | exact (Kd.R_reads' HO_7.out).2.2 | (with_reducible refine Kd.C_alloc ?_ _) | (with_reducible refine Kd.C_drewN ?_ _) | (with_reducible refine Kd.C_drew ?_))); (case side2 => exact (Kd.R_reads' HO_7.out).2.1); (case side3 => repeat (first | exact (Kd.R_reads' HO327.out).2.2 | (with_reducible refine Kd.C_alloc ?_ _) | (with_reducible refine Kd.C_drewN ?_ _) | (with_reducible refine Kd.C_drew ?_))); (case side4 => exact (Kd.R_reads' HO327.out).2.1); rintro e w' ⟨rfl, ⟨nd, rfl⟩⟩; refine ⟨_, rfl, ?_⟩) | (go_at_call 23; (with_reducible refine (letterbagref18_Degree.calls kj35 _ _ l0 t329 _ ?side1 ?side2 A47.out).mono ?_); (case side1 => repeat (first | exact (Kd.C_below HR0.out (by repeat (first | (with_reducible first | exact HB.out | apply below_alloc | apply pw_below_drewN | apply below_drew1) | exact HB.out))) | (with_reducible refine Kd.C_alloc ?_ _) | (with_reducible refine Kd.C_drewN ?_ _) | (with_reducible refine Kd.C_drew ?_))); (case side2 => exact HC0.out); rintro e w' ⟨rfl, ⟨nd, rfl⟩⟩))
                            go_meet
                            case rel => exact ⟨_, H', ⟨by have := HJ2.out; have := HJ14.out; have := HJ35.out; first | omega | exact Nat.le_refl _⟩, ⟨by (with_reducible repeat (first | apply Kd.R_alloc | apply Kd.R_drewN | apply Kd.R_drew)); exact Kd.R_mono HO_11.out (fun _ hk => ⟨hk.1.2.1, ⟨hk.1.2.2.1, hk.1.2.2.2⟩⟩)⟩, ⟨by (with_reducible repeat (first | apply Kd.R_alloc | apply Kd.R_drewN | apply Kd.R_drew)); exact Kd.R_mono HO_13.out (fun _ hk => ⟨hk.1.2.1, ⟨hk.1.2.2.1, hk.1.2.2.2⟩⟩)⟩, ⟨by (with_reducible repeat (first | apply Kd.R_alloc | apply Kd.R_drewN | apply Kd.R_drew)); exact Kd.R_mono HO_15.out (fun _ hk => ⟨hk.1.2.1, ⟨hk.1.2.2.1, hk.1.2.2.2⟩⟩)⟩, ⟨by (with_reducible repeat (first | apply Kd.R_alloc | apply Kd.R_drewN | apply Kd.R_drew)); exact Kd.R_mono HO_16.out (fun _ hk => ⟨hk.1.2.1, ⟨hk.1.2.2.1, hk.1.2.2.2⟩⟩)⟩, ⟨by repeat (first | (with_reducible first | exact HB.out | apply below_alloc | apply pw_below_drewN | apply below_drew1) | exact HB.out)⟩⟩
                          · rw [if_neg c48] at H
                            have c48b0 : (t304 == t329) = false := beq_eq_false_iff_ne.mpr c48
                            have c48b1 : (t304 != t329) = true := bne_iff_ne.mpr c48
                            try exact absurd H (by decide)
                            all_goals (have HTR := Aside0.mk (Option.some.inj H))
                            all_goals (go_wp2_with (first | ((with_reducible refine gate_callee (f := 22) rfl ?_); refine goesL_ (some 101) rfl rfl Tryd.func22 (by kernel_rfl) rfl #[.slice A0 l0.length c0] rfl (by (try simp only [List.map_toArray, List.map_cons, List.map_nil]); first | done | rfl | (simp only [List.length_drop, List.length_take]; rfl)) ?_; (with_reducible refine (letterbagref18_Trim.calls kj35 _ _ l0 t325 _ ?side1 ?side2 A44.out).mono ?_); (case side1 => repeat (first | exact (Kd.C_below HR0.out HB.out) | (with_reducible refine Kd.C_alloc ?_ _) | (with_reducible refine Kd.C_drewN ?_ _) | (with_reducible refine Kd.C_drew ?_))); (case side2 => exact HC0.out); rintro e w52 ⟨v326, rfl, ho0, hb⟩; refine ⟨_, rfl, ?_⟩; have n0_ := Aside0.mk (Kd.R_elder' (by (with_reducible repeat (first | apply Kd.R_alloc | apply Kd.R_drewN | apply Kd.R_drew)); exact HO_7.out) (Kd.R_base ho0) hb); have n1_ := Aside0.mk (Kd.R_elder' (by (with_reducible repeat (first | apply Kd.R_alloc | apply Kd.R_drewN | apply Kd.R_drew)); exact HO_11.out) (Kd.R_base ho0) hb); have n2_ := Aside0.mk (Kd.R_elder' (by (with_reducible repeat (first | apply Kd.R_alloc | apply Kd.R_drewN | apply Kd.R_drew)); exact HO_13.out) (Kd.R_base ho0) hb); have n3_ := Aside0.mk (Kd.R_elder' (by (with_reducible repeat (first | apply Kd.R_alloc | apply Kd.R_drewN | apply Kd.R_drew)); exact HO_15.out) (Kd.R_base ho0) hb); have n4_ := Aside0.mk (Kd.R_elder' (by (with_reducible repeat (first | apply Kd.R_alloc | apply Kd.R_drewN | apply Kd.R_drew)); exact HO_16.out) (Kd.R_base ho0) hb); have n5_ := Aside0.mk (Kd.R_lower (Kd.R_new' (Kd.R_new' (Kd.R_new' (Kd.R_new' (Kd.R_new' ho0 (Kd.R_lt (by (with_reducible repeat (first | apply Kd.R_alloc | apply Kd.R_drewN | apply Kd.R_drew)); exact HO_7.out))) (Kd.R_lt (by (with_reducible repeat (first | apply Kd.R_alloc | apply Kd.R_drewN | apply Kd.R_drew)); exact HO_11.out))) (Kd.R_lt (by (with_reducible repeat (first | apply Kd.R_alloc | apply Kd.R_drewN | apply Kd.R_drew)); exact HO_13.out))) (Kd.R_lt (by (with_reducible repeat (first | apply Kd.R_alloc | apply Kd.R_drewN | apply Kd.R_drew)); exact HO_15.out))) (Kd.R_lt (by (with_reducible repeat (first | apply Kd.R_alloc | apply Kd.R_drewN | apply Kd.R_drew)); exact HO_16.out))) (below_size (by repeat (first | (with_reducible first | exact HB.out | apply below_alloc | apply pw_below_drewN | apply below_drew1) | exact HB.out)))); have n6_ := Aside0.mk (below_step (by repeat (first | (with_reducible first | exact HB.out | apply below_alloc | apply pw_below_drewN | apply below_drew1) | exact HB.out)) hb); clear HO_7; clear HO_11; clear HO_13; clear HO_15; clear HO_16; clear HB; have HO_7 := n0_; have HO_11 := n1_; have HO_13 := n2_; have HO_15 := n3_; have HO_16 := n4_; have HO327 := n5_; have HB := n6_; clear n0_ n1_ n2_ n3_ n4_ n5_ n6_; (try clear hb); (try clear hb2); (try clear hk); (try clear hi); (try clear ho0); obtain ⟨Ao53, co53, eo53⟩ := Kd.R_slice HO_7.out; subst eo53; obtain ⟨Ao54, co54, eo54⟩ := Kd.R_slice HO327.out; subst eo54) | ((with_reducible refine gate_callee (f := 21) rfl ?_); refine goesL_ (some 102) rfl rfl Tryd.func21 (by kernel_rfl) rfl #[.slice Ao53 t300.length co53, .slice Ao54 t325.length co54] rfl (by (try simp only [List.map_toArray, List.map_cons, List.map_nil]); first | done | rfl | (simp only [List.length_drop, List.length_take]; rfl)) ?_; (with_reducible refine (letterbagkit_SameBytes.calls kj35 _ _ t300 _ _ t325 true _ ?side1 ?side2 ?side3 ?side4 A45.out).mono ?_); (case side1 => repeat (first | exact (Kd.R_reads' HO_7.out).2.2 | (with_reducible refine Kd.C_alloc ?_ _) | (with_reducible refine Kd.C_drewN ?_ _) | (with_reducible refine Kd.C_drew ?_))); (case side2 => exact (Kd.R_reads' HO_7.out).2.1); (case side3 => repeat (first | exact (Kd.R_reads' HO327.out).2.2 | (with_reducible refine Kd.C_alloc ?_ _) | (with_reducible refine Kd.C_drewN ?_ _) | (with_reducible refine Kd.C_drew ?_))); (case side4 => exact (Kd.R_reads' HO327.out).2.1); rintro e w' ⟨rfl, ⟨nd, rfl⟩⟩; refine ⟨_, rfl, ?_⟩) | (go_at_call 23; (with_reducible refine (letterbagref18_Degree.calls kj35 _ _ l0 t329 _ ?side1 ?side2 A47.out).mono ?_); (case side1 => repeat (first | exact (Kd.C_below HR0.out (by repeat (first | (with_reducible first | exact HB.out | apply below_alloc | apply pw_below_drewN | apply below_drew1) | exact HB.out))) | (with_reducible refine Kd.C_alloc ?_ _) | (with_reducible refine Kd.C_drewN ?_ _) | (with_reducible refine Kd.C_drew ?_))); (case side2 => exact HC0.out); rintro e w' ⟨rfl, ⟨nd, rfl⟩⟩)))
                            all_goals (go_ret)
                            all_goals (exact ⟨by first | rfl | (rw [HTR.out]; rfl) | (simp [errW_none, errW_some] <;> rfl) | (simp [*, errW_none, errW_some] <;> rfl), by repeat (first | (with_reducible first | exact HB.out | apply below_alloc | apply pw_below_drewN | apply below_drew1) | exact HB.out)⟩)
                        · replace c46 := Bool.eq_false_iff.mpr c46
                          subst c46
                          have H1 : (some false) = some true := by rw [if_neg (show ¬ (false = true) by decide)] at H; exact H
                          exact absurd H1 (by decide)
                      · rw [if_neg c43] at H
                        have c43b0 : (t323 == 0) = false := beq_eq_false_iff_ne.mpr c43
                        have c43b1 : (t323 != 0) = true := bne_iff_ne.mpr c43
                        (first | rw [c43b0] | (simp only [i64_w, i32_w]; rw [c43b0]) | skip)
                        by_cases c58 : (t300.length : Int) = 0
                        · rw [if_pos c58] at H
                          have c58b0 : ((t300.length : Int) == 0) = true := beq_iff_eq.mpr c58
                          have c58b1 : ((t300.length : Int) != 0) = false := bne_eq_false_iff_eq.mpr c58
                          clear c58
                          by_cases c59 : t304 = 0
                          · rw [if_pos c59] at H
                            have c59b0 : (t304 == 0) = true := beq_iff_eq.mpr c59
                            have c59b1 : (t304 != 0) = false := bne_eq_false_iff_eq.mpr c59
                            clear c59
                            have H' := Aside0.mk H
                            clear H
                            obtain ⟨Ao60, co60, eo60⟩ := Kd.R_slice HO_7.out
                            subst eo60
                            go_wp2
                            go_meet
                            case rel => exact ⟨_, H', ⟨by have := HJ2.out; have := HJ14.out; have := HJ35.out; first | omega | exact Nat.le_refl _⟩, ⟨by (with_reducible repeat (first | apply Kd.R_alloc | apply Kd.R_drewN | apply Kd.R_drew)); exact Kd.R_mono HO_11.out (fun _ hk => ⟨hk.2.1, ⟨hk.2.2.1, hk.2.2.2⟩⟩)⟩, ⟨by (with_reducible repeat (first | apply Kd.R_alloc | apply Kd.R_drewN | apply Kd.R_drew)); exact Kd.R_mono HO_13.out (fun _ hk => ⟨hk.2.1, ⟨hk.2.2.1, hk.2.2.2⟩⟩)⟩, ⟨by (with_reducible repeat (first | apply Kd.R_alloc | apply Kd.R_drewN | apply Kd.R_drew)); exact Kd.R_mono HO_15.out (fun _ hk => ⟨hk.2.1, ⟨hk.2.2.1, hk.2.2.2⟩⟩)⟩, ⟨by (with_reducible repeat (first | apply Kd.R_alloc | apply Kd.R_drewN | apply Kd.R_drew)); exact Kd.R_mono HO_16.out (fun _ hk => ⟨hk.2.1, ⟨hk.2.2.1, hk.2.2.2⟩⟩)⟩, ⟨by repeat (first | (with_reducible first | exact HB.out | apply below_alloc | apply pw_below_drewN | apply below_drew1) | exact HB.out)⟩⟩
                          · rw [if_neg c59] at H
                            have c59b0 : (t304 == 0) = false := beq_eq_false_iff_ne.mpr c59
                            have c59b1 : (t304 != 0) = true := bne_iff_ne.mpr c59
                            try exact absurd H (by decide)
                            all_goals (have HTR := Aside0.mk (Option.some.inj H))
                            all_goals (obtain ⟨Ao61, co61, eo61⟩ := Kd.R_slice HO_7.out)
                            all_goals (subst eo61)
                            all_goals (go_wp2)
                            all_goals (go_ret)
                            all_goals (exact ⟨by first | rfl | (rw [HTR.out]; rfl) | (simp [errW_none, errW_some] <;> rfl) | (simp [*, errW_none, errW_some] <;> rfl), by repeat (first | (with_reducible first | exact HB.out | apply below_alloc | apply pw_below_drewN | apply below_drew1) | exact HB.out)⟩)
                        · rw [if_neg c58] at H
                          have c58b0 : ((t300.length : Int) == 0) = false := beq_eq_false_iff_ne.mpr c58
                          have c58b1 : ((t300.length : Int) != 0) = true := bne_iff_ne.mpr c58
                          have c58b2 : ¬ (t300 = []) := fun h_ => c58 (by rw [h_]; rfl)
                          try exact absurd H (by decide)
                          all_goals (have HTR := Aside0.mk (Option.some.inj H))
                          all_goals (obtain ⟨Ao62, co62, eo62⟩ := Kd.R_slice HO_7.out)
                          all_goals (subst eo62)
                          all_goals (go_wp2)
                          all_goals (go_ret)
                          all_goals (exact ⟨by first | rfl | (rw [HTR.out]; rfl) | (simp [errW_none, errW_some] <;> rfl) | (simp [*, errW_none, errW_some] <;> rfl), by repeat (first | (with_reducible first | exact HB.out | apply below_alloc | apply pw_below_drewN | apply below_drew1) | exact HB.out)⟩)
                    case rest =>
                      clear HC42
                      try clear c1
                      try clear c2
                      try clear p2
                      try clear c3
                      try clear c4
                      try clear c4b0
                      try clear c4b1
                      try clear c5
                      try clear c11
                      try clear c12
                      try clear c13
                      try clear c14
                      try clear c15
                      try clear c16
                      try clear c17
                      try clear c18
                      try clear c19
                      try clear c20
                      try clear c21
                      try clear c22
                      try clear c26
                      try clear c31
                      try clear c39
                      try clear c39b0
                      try clear c39b1
                      try clear c40
                      try clear c40b0
                      try clear c40b1
                      try clear c41
                      try clear c43
                      try clear c43b0
                      try clear c43b1
                      try clear c46
                      try clear c48
                      try clear c48b0
                      try clear c48b1
                      try clear c58
                      try clear c58b0
                      try clear c58b1
                      try clear c58b2
                      try clear c59
                      try clear c59b0
                      try clear c59b1
                      try clear p2
                      obtain ⟨kq, HA, HJ41, HO_11, HO_13, HO_15, HO_16, HB⟩ := hcut
                      cases kq with
                      | zero => exact absurd HA.out (by simp [letterbaglaw18_FieldPolys.j3])
                      | succ kj41 =>
                        have H := HA.out
                        clear HA
                        simp only [letterbaglaw18_FieldPolys.j3] at H
                        by_cases c63 : t324 = 0
                        · rw [if_pos c63] at H
                          have c63b0 : (t324 == 0) = true := beq_iff_eq.mpr c63
                          have c63b1 : (t324 != 0) = false := bne_eq_false_iff_eq.mpr c63
                          clear c63
                          replace H := Option.bind_eq_some_iff.mp H
                          obtain ⟨t331, A640, H⟩ := H
                          replace H : ((letterbagkit_SameBytes.f kj41 t306 t331).bind fun t334 => (if t334 = true then ((letterbagref18_Product.f kj41 l0 l1).bind fun t335 => (if (t335.length : Int) > 128 then (if t313 = 5 then (if (t310.length : Int) = 0 then (letterbaglaw18_FieldPolys.j4 kj41 l0 l1 t314 t317 t320) else (some false)) else (some false)) else (if t313 = 0 then ((letterbagkit_SameBytes.f kj41 t310 t335).bind fun t338 => (if t338 = true then (letterbaglaw18_FieldPolys.j4 kj41 l0 l1 t314 t317 t320) else (some false))) else (some false)))) else (some false))) = some true := H
                          have A64 := Aside0.mk A640
                          clear A640
                          replace H := Option.bind_eq_some_iff.mp H
                          obtain ⟨t334, A650, H⟩ := H
                          replace H : (if t334 = true then ((letterbagref18_Product.f kj41 l0 l1).bind fun t335 => (if (t335.length : Int) > 128 then (if t313 = 5 then (if (t310.length : Int) = 0 then (letterbaglaw18_FieldPolys.j4 kj41 l0 l1 t314 t317 t320) else (some false)) else (some false)) else (if t313 = 0 then ((letterbagkit_SameBytes.f kj41 t310 t335).bind fun t338 => (if t338 = true then (letterbaglaw18_FieldPolys.j4 kj41 l0 l1 t314 t317 t320) else (some false))) else (some false)))) else (some false)) = some true := H
                          have A65 := Aside0.mk A650
                          clear A650
                          by_cases c66 : t334 = true
                          · subst c66
                            have H1 : ((letterbagref18_Product.f kj41 l0 l1).bind fun t335 => (if (t335.length : Int) > 128 then (if t313 = 5 then (if (t310.length : Int) = 0 then (letterbaglaw18_FieldPolys.j4 kj41 l0 l1 t314 t317 t320) else (some false)) else (some false)) else (if t313 = 0 then ((letterbagkit_SameBytes.f kj41 t310 t335).bind fun t338 => (if t338 = true then (letterbaglaw18_FieldPolys.j4 kj41 l0 l1 t314 t317 t320) else (some false))) else (some false)))) = some true := by rw [if_pos rfl] at H; exact H
                            clear H
                            have H := H1
                            clear H1
                            replace H := Option.bind_eq_some_iff.mp H
                            obtain ⟨t335, A670, H⟩ := H
                            replace H : (if (t335.length : Int) > 128 then (if t313 = 5 then (if (t310.length : Int) = 0 then (letterbaglaw18_FieldPolys.j4 kj41 l0 l1 t314 t317 t320) else (some false)) else (some false)) else (if t313 = 0 then ((letterbagkit_SameBytes.f kj41 t310 t335).bind fun t338 => (if t338 = true then (letterbaglaw18_FieldPolys.j4 kj41 l0 l1 t314 t317 t320) else (some false))) else (some false))) = some true := H
                            have A67 := Aside0.mk A670
                            clear A670
                            have HC68 := Aside0.mk H
                            clear H
                            go_upto_if 155 with (first | ((with_reducible refine gate_callee (f := 24) rfl ?_); refine goesL_ (some 147) rfl rfl Tryd.func24 (by kernel_rfl) rfl #[.slice A0 l0.length c0, .slice A1 l1.length c1] rfl (by (try simp only [List.map_toArray, List.map_cons, List.map_nil]); first | done | rfl | (simp only [List.length_drop, List.length_take]; rfl)) ?_; (with_reducible refine (letterbagref18_Sum.calls kj41 _ _ l0 _ _ l1 t331 _ ?side1 ?side2 ?side3 ?side4 A64.out).mono ?_); (case side1 => repeat (first | exact (Kd.C_below HR0.out HB.out) | (with_reducible refine Kd.C_alloc ?_ _) | (with_reducible refine Kd.C_drewN ?_ _) | (with_reducible refine Kd.C_drew ?_))); (case side2 => exact HC0.out); (case side3 => repeat (first | exact (Kd.C_below HR1.out HB.out) | (with_reducible refine Kd.C_alloc ?_ _) | (with_reducible refine Kd.C_drewN ?_ _) | (with_reducible refine Kd.C_drew ?_))); (case side4 => exact HC1.out); rintro e w69 ⟨v332, rfl, ho0, hb⟩; refine ⟨_, rfl, ?_⟩; have n0_ := Aside0.mk (Kd.R_elder' (by (with_reducible repeat (first | apply Kd.R_alloc | apply Kd.R_drewN | apply Kd.R_drew)); exact HO_11.out) (Kd.R_base ho0) hb); have n1_ := Aside0.mk (Kd.R_elder' (by (with_reducible repeat (first | apply Kd.R_alloc | apply Kd.R_drewN | apply Kd.R_drew)); exact HO_13.out) (Kd.R_base ho0) hb); have n2_ := Aside0.mk (Kd.R_elder' (by (with_reducible repeat (first | apply Kd.R_alloc | apply Kd.R_drewN | apply Kd.R_drew)); exact HO_15.out) (Kd.R_base ho0) hb); have n3_ := Aside0.mk (Kd.R_elder' (by (with_reducible repeat (first | apply Kd.R_alloc | apply Kd.R_drewN | apply Kd.R_drew)); exact HO_16.out) (Kd.R_base ho0) hb); have n4_ := Aside0.mk (Kd.R_lower (Kd.R_new' (Kd.R_new' (Kd.R_new' (Kd.R_new' ho0 (Kd.R_lt (by (with_reducible repeat (first | apply Kd.R_alloc | apply Kd.R_drewN | apply Kd.R_drew)); exact HO_11.out))) (Kd.R_lt (by (with_reducible repeat (first | apply Kd.R_alloc | apply Kd.R_drewN | apply Kd.R_drew)); exact HO_13.out))) (Kd.R_lt (by (with_reducible repeat (first | apply Kd.R_alloc | apply Kd.R_drewN | apply Kd.R_drew)); exact HO_15.out))) (Kd.R_lt (by (with_reducible repeat (first | apply Kd.R_alloc | apply Kd.R_drewN | apply Kd.R_drew)); exact HO_16.out))) (below_size (by repeat (first | (with_reducible first | exact HB.out | apply below_alloc | apply pw_below_drewN | apply below_drew1) | exact HB.out)))); have n5_ := Aside0.mk (below_step (by repeat (first | (with_reducible first | exact HB.out | apply below_alloc | apply pw_below_drewN | apply below_drew1) | exact HB.out)) hb); clear HO_11; clear HO_13; clear HO_15; clear HO_16; clear HB; have HO_11 := n0_; have HO_13 := n1_; have HO_15 := n2_; have HO_16 := n3_; have HO333 := n4_; have HB := n5_; clear n0_ n1_ n2_ n3_ n4_ n5_; (try clear hb); (try clear hb2); (try clear hk); (try clear hi); (try clear ho0); obtain ⟨Ao70, co70, eo70⟩ := Kd.R_slice HO_11.out; subst eo70; obtain ⟨Ao71, co71, eo71⟩ := Kd.R_slice HO333.out; subst eo71) | ((with_reducible refine gate_callee (f := 21) rfl ?_); refine goesL_ (some 148) rfl rfl Tryd.func21 (by kernel_rfl) rfl #[.slice Ao70 t306.length co70, .slice Ao71 t331.length co71] rfl (by (try simp only [List.map_toArray, List.map_cons, List.map_nil]); first | done | rfl | (simp only [List.length_drop, List.length_take]; rfl)) ?_; (with_reducible refine (letterbagkit_SameBytes.calls kj41 _ _ t306 _ _ t331 true _ ?side1 ?side2 ?side3 ?side4 A65.out).mono ?_); (case side1 => repeat (first | exact (Kd.R_reads' HO_11.out).2.2 | (with_reducible refine Kd.C_alloc ?_ _) | (with_reducible refine Kd.C_drewN ?_ _) | (with_reducible refine Kd.C_drew ?_))); (case side2 => exact (Kd.R_reads' HO_11.out).2.1); (case side3 => repeat (first | exact (Kd.R_reads' HO333.out).2.2 | (with_reducible refine Kd.C_alloc ?_ _) | (with_reducible refine Kd.C_drewN ?_ _) | (with_reducible refine Kd.C_drew ?_))); (case side4 => exact (Kd.R_reads' HO333.out).2.1); rintro e w' ⟨rfl, ⟨nd, rfl⟩⟩; refine ⟨_, rfl, ?_⟩) | ((with_reducible refine gate_callee (f := 25) rfl ?_); refine goesL_ (some 152) rfl rfl Tryd.func25 (by kernel_rfl) rfl #[.slice A0 l0.length c0, .slice A1 l1.length c1] rfl (by (try simp only [List.map_toArray, List.map_cons, List.map_nil]); first | done | rfl | (simp only [List.length_drop, List.length_take]; rfl)) ?_; (with_reducible refine (letterbagref18_Product.calls kj41 _ _ l0 _ _ l1 t335 _ ?side1 ?side2 ?side3 ?side4 A67.out).mono ?_); (case side1 => repeat (first | exact (Kd.C_below HR0.out (by repeat (first | (with_reducible first | exact HB.out | apply below_alloc | apply pw_below_drewN | apply below_drew1) | exact HB.out))) | (with_reducible refine Kd.C_alloc ?_ _) | (with_reducible refine Kd.C_drewN ?_ _) | (with_reducible refine Kd.C_drew ?_))); (case side2 => exact HC0.out); (case side3 => repeat (first | exact (Kd.C_below HR1.out (by repeat (first | (with_reducible first | exact HB.out | apply below_alloc | apply pw_below_drewN | apply below_drew1) | exact HB.out))) | (with_reducible refine Kd.C_alloc ?_ _) | (with_reducible refine Kd.C_drewN ?_ _) | (with_reducible refine Kd.C_drew ?_))); (case side4 => exact HC1.out); rintro e w72 ⟨v336, rfl, ho0, hb⟩; refine ⟨_, rfl, ?_⟩; have n0_ := Aside0.mk (Kd.R_elder' (by (with_reducible repeat (first | apply Kd.R_alloc | apply Kd.R_drewN | apply Kd.R_drew)); exact HO_11.out) (Kd.R_base ho0) hb); have n1_ := Aside0.mk (Kd.R_elder' (by (with_reducible repeat (first | apply Kd.R_alloc | apply Kd.R_drewN | apply Kd.R_drew)); exact HO_13.out) (Kd.R_base ho0) hb); have n2_ := Aside0.mk (Kd.R_elder' (by (with_reducible repeat (first | apply Kd.R_alloc | apply Kd.R_drewN | apply Kd.R_drew)); exact HO_15.out) (Kd.R_base ho0) hb); have n3_ := Aside0.mk (Kd.R_elder' (by (with_reducible repeat (first | apply Kd.R_alloc | apply Kd.R_drewN | apply Kd.R_drew)); exact HO_16.out) (Kd.R_base ho0) hb); have n4_ := Aside0.mk (Kd.R_elder' (by (with_reducible repeat (first | apply Kd.R_alloc | apply Kd.R_drewN | apply Kd.R_drew)); exact HO333.out) (Kd.R_base ho0) hb); have n5_ := Aside0.mk (Kd.R_lower (Kd.R_new' (Kd.R_new' (Kd.R_new' (Kd.R_new' (Kd.R_new' ho0 (Kd.R_lt (by (with_reducible repeat (first | apply Kd.R_alloc | apply Kd.R_drewN | apply Kd.R_drew)); exact HO_11.out))) (Kd.R_lt (by (with_reducible repeat (first | apply Kd.R_alloc | apply Kd.R_drewN | apply Kd.R_drew)); exact HO_13.out))) (Kd.R_lt (by (with_reducible repeat (first | apply Kd.R_alloc | apply Kd.R_drewN | apply Kd.R_drew)); exact HO_15.out))) (Kd.R_lt (by (with_reducible repeat (first | apply Kd.R_alloc | apply Kd.R_drewN | apply Kd.R_drew)); exact HO_16.out))) (Kd.R_lt (by (with_reducible repeat (first | apply Kd.R_alloc | apply Kd.R_drewN | apply Kd.R_drew)); exact HO333.out))) (below_size (by repeat (first | (with_reducible first | exact HB.out | apply below_alloc | apply pw_below_drewN | apply below_drew1) | exact HB.out)))); have n6_ := Aside0.mk (below_step (by repeat (first | (with_reducible first | exact HB.out | apply below_alloc | apply pw_below_drewN | apply below_drew1) | exact HB.out)) hb); clear HO_11; clear HO_13; clear HO_15; clear HO_16; clear HO333; clear HB; have HO_11 := n0_; have HO_13 := n1_; have HO_15 := n2_; have HO_16 := n3_; have HO333 := n4_; have HO337 := n5_; have HB := n6_; clear n0_ n1_ n2_ n3_ n4_ n5_ n6_; (try clear hb); (try clear hb2); (try clear hk); (try clear hi); (try clear ho0); obtain ⟨Ao73, co73, eo73⟩ := Kd.R_slice HO337.out; subst eo73))
                            (try simp only [Act.put, List.setIfInBounds_toArray, List.set_cons_zero, List.set_cons_succ])
                            go_cut [] (fun wc => ∃ (kq : Nat), Aside0 (letterbaglaw18_FieldPolys.j4 kq l0 l1 t314 t317 t320 = some true) ∧ Aside0 (kq ≤ kj41) ∧ Aside0 (Kd.R (Kd.int .u8) 5 wc w.heap.size (fun k_ => some k_ ≠ (v318 : Value).ownBlock) v315 t314) ∧ Aside0 (Kd.R (Kd.int .u8) 5 wc w.heap.size (fun k_ => some k_ ≠ (v315 : Value).ownBlock) v318 t317) ∧ Aside0 (Below w.heap.size w wc))
                            case first =>
                              have H := HC68.out
                              clear HC68
                              by_cases c74 : (t335.length : Int) > 128
                              · rw [if_pos c74] at H
                                have c74b0 : decide (128 < (t335.length : Int)) = true := decide_eq_true c74
                                have c74b1 : decide (128 < t335.length) = true := decide_eq_true (by omega)
                                clear c74
                                (first | rw [c74b0] | (simp only [i64_w, i32_w]; rw [c74b0]) | skip)
                                by_cases c75 : t313 = 5
                                · rw [if_pos c75] at H
                                  have c75b0 : (t313 == 5) = true := beq_iff_eq.mpr c75
                                  have c75b1 : (t313 != 5) = false := bne_eq_false_iff_eq.mpr c75
                                  clear c75
                                  by_cases c76 : (t310.length : Int) = 0
                                  · rw [if_pos c76] at H
                                    have c76b0 : ((t310.length : Int) == 0) = true := beq_iff_eq.mpr c76
                                    have c76b1 : ((t310.length : Int) != 0) = false := bne_eq_false_iff_eq.mpr c76
                                    clear c76
                                    have H' := Aside0.mk H
                                    clear H
                                    obtain ⟨Ao77, co77, eo77⟩ := Kd.R_slice HO_13.out
                                    subst eo77
                                    go_wp2
                                    go_meet
                                    case rel => exact ⟨_, H', ⟨by have := HJ2.out; have := HJ14.out; have := HJ35.out; have := HJ41.out; first | omega | exact Nat.le_refl _⟩, ⟨by (with_reducible repeat (first | apply Kd.R_alloc | apply Kd.R_drewN | apply Kd.R_drew)); exact Kd.R_mono HO_15.out (fun _ hk => hk.1.1.2.2)⟩, ⟨by (with_reducible repeat (first | apply Kd.R_alloc | apply Kd.R_drewN | apply Kd.R_drew)); exact Kd.R_mono HO_16.out (fun _ hk => hk.1.1.2.2)⟩, ⟨by repeat (first | (with_reducible first | exact HB.out | apply below_alloc | apply pw_below_drewN | apply below_drew1) | exact HB.out)⟩⟩
                                  · rw [if_neg c76] at H
                                    have c76b0 : ((t310.length : Int) == 0) = false := beq_eq_false_iff_ne.mpr c76
                                    have c76b1 : ((t310.length : Int) != 0) = true := bne_iff_ne.mpr c76
                                    have c76b2 : ¬ (t310 = []) := fun h_ => c76 (by rw [h_]; rfl)
                                    try exact absurd H (by decide)
                                    all_goals (have HTR := Aside0.mk (Option.some.inj H))
                                    all_goals (obtain ⟨Ao78, co78, eo78⟩ := Kd.R_slice HO_13.out)
                                    all_goals (subst eo78)
                                    all_goals (go_wp2)
                                    all_goals (go_ret)
                                    all_goals (exact ⟨by first | rfl | (rw [HTR.out]; rfl) | (simp [errW_none, errW_some] <;> rfl) | (simp [*, errW_none, errW_some] <;> rfl), by repeat (first | (with_reducible first | exact HB.out | apply below_alloc | apply pw_below_drewN | apply below_drew1) | exact HB.out)⟩)
                                · rw [if_neg c75] at H
                                  have c75b0 : (t313 == 5) = false := beq_eq_false_iff_ne.mpr c75
                                  have c75b1 : (t313 != 5) = true := bne_iff_ne.mpr c75
                                  try exact absurd H (by decide)
                                  all_goals (have HTR := Aside0.mk (Option.some.inj H))
                                  all_goals (go_wp2)
                                  all_goals (go_ret)
                                  all_goals (exact ⟨by first | rfl | (rw [HTR.out]; rfl) | (simp [errW_none, errW_some] <;> rfl) | (simp [*, errW_none, errW_some] <;> rfl), by repeat (first | (with_reducible first | exact HB.out | apply below_alloc | apply pw_below_drewN | apply below_drew1) | exact HB.out)⟩)
                              · rw [if_neg c74] at H
                                have c74b0 : decide (128 < (t335.length : Int)) = false := decide_eq_false c74
                                have c74b1 : decide (128 < t335.length) = false := decide_eq_false (by omega)
                                clear c74
                                (first | rw [c74b0] | (simp only [i64_w, i32_w]; rw [c74b0]) | skip)
                                by_cases c79 : t313 = 0
                                · rw [if_pos c79] at H
                                  have c79b0 : (t313 == 0) = true := beq_iff_eq.mpr c79
                                  have c79b1 : (t313 != 0) = false := bne_eq_false_iff_eq.mpr c79
                                  clear c79
                                  replace H := Option.bind_eq_some_iff.mp H
                                  obtain ⟨t338, A800, H⟩ := H
                                  replace H : (if t338 = true then (letterbaglaw18_FieldPolys.j4 kj41 l0 l1 t314 t317 t320) else (some false)) = some true := H
                                  have A80 := Aside0.mk A800
                                  clear A800
                                  by_cases c81 : t338 = true
                                  · subst c81
                                    have H1 : (letterbaglaw18_FieldPolys.j4 kj41 l0 l1 t314 t317 t320) = some true := by rw [if_pos rfl] at H; exact H
                                    clear H
                                    have H := H1
                                    clear H1
                                    have H' := Aside0.mk H
                                    clear H
                                    obtain ⟨Ao82, co82, eo82⟩ := Kd.R_slice HO_13.out
                                    subst eo82
                                    go_wp2_with (first | (go_at_call 21; (with_reducible refine (letterbagkit_SameBytes.calls kj41 _ _ t310 _ _ t335 true _ ?side1 ?side2 ?side3 ?side4 A80.out).mono ?_); (case side1 => repeat (first | exact (Kd.R_reads' HO_13.out).2.2 | (with_reducible refine Kd.C_alloc ?_ _) | (with_reducible refine Kd.C_drewN ?_ _) | (with_reducible refine Kd.C_drew ?_))); (case side2 => exact (Kd.R_reads' HO_13.out).2.1); (case side3 => repeat (first | exact (Kd.R_reads' HO337.out).2.2 | (with_reducible refine Kd.C_alloc ?_ _) | (with_reducible refine Kd.C_drewN ?_ _) | (with_reducible refine Kd.C_drew ?_))); (case side4 => exact (Kd.R_reads' HO337.out).2.1); rintro e w' ⟨rfl, ⟨nd, rfl⟩⟩))
                                    go_meet
                                    case rel => exact ⟨_, H', ⟨by have := HJ2.out; have := HJ14.out; have := HJ35.out; have := HJ41.out; first | omega | exact Nat.le_refl _⟩, ⟨by (with_reducible repeat (first | apply Kd.R_alloc | apply Kd.R_drewN | apply Kd.R_drew)); exact Kd.R_mono HO_15.out (fun _ hk => hk.1.1.2.2)⟩, ⟨by (with_reducible repeat (first | apply Kd.R_alloc | apply Kd.R_drewN | apply Kd.R_drew)); exact Kd.R_mono HO_16.out (fun _ hk => hk.1.1.2.2)⟩, ⟨by repeat (first | (with_reducible first | exact HB.out | apply below_alloc | apply pw_below_drewN | apply below_drew1) | exact HB.out)⟩⟩
                                  · replace c81 := Bool.eq_false_iff.mpr c81
                                    subst c81
                                    have H1 : (some false) = some true := by rw [if_neg (show ¬ (false = true) by decide)] at H; exact H
                                    exact absurd H1 (by decide)
                                · rw [if_neg c79] at H
                                  have c79b0 : (t313 == 0) = false := beq_eq_false_iff_ne.mpr c79
                                  have c79b1 : (t313 != 0) = true := bne_iff_ne.mpr c79
                                  try exact absurd H (by decide)
                                  all_goals (have HTR := Aside0.mk (Option.some.inj H))
                                  all_goals (go_wp2)
                                  all_goals (go_ret)
                                  all_goals (exact ⟨by first | rfl | (rw [HTR.out]; rfl) | (simp [errW_none, errW_some] <;> rfl) | (simp [*, errW_none, errW_some] <;> rfl), by repeat (first | (with_reducible first | exact HB.out | apply below_alloc | apply pw_below_drewN | apply below_drew1) | exact HB.out)⟩)
                            case rest =>
                              clear HC68
                              try clear c1
                              try clear c2
                              try clear p2
                              try clear c3
                              try clear c4
                              try clear c4b0
                              try clear c4b1
                              try clear c5
                              try clear c6
                              try clear c7
                              try clear c8
                              try clear c11
                              try clear c12
                              try clear c13
                              try clear c14
                              try clear c15
                              try clear c16
                              try clear c17
                              try clear c18
                              try clear c19
                              try clear c20
                              try clear c21
                              try clear c22
                              try clear c24
                              try clear c25
                              try clear c26
                              try clear c31
                              try clear c39
                              try clear c39b0
                              try clear c39b1
                              try clear c40
                              try clear c40b0
                              try clear c40b1
                              try clear c41
                              try clear c43
                              try clear c43b0
                              try clear c43b1
                              try clear c46
                              try clear c48
                              try clear c48b0
                              try clear c48b1
                              try clear c58
                              try clear c58b0
                              try clear c58b1
                              try clear c58b2
                              try clear c59
                              try clear c59b0
                              try clear c59b1
                              try clear c63
                              try clear c63b0
                              try clear c63b1
                              try clear c66
                              try clear c74
                              try clear c74b0
                              try clear c74b1
                              try clear c75
                              try clear c75b0
                              try clear c75b1
                              try clear c76
                              try clear c76b0
                              try clear c76b1
                              try clear c76b2
                              try clear c79
                              try clear c79b0
                              try clear c79b1
                              try clear c81
                              try clear p2
                              obtain ⟨kq, HA, HJ67, HO_15, HO_16, HB⟩ := hcut
                              cases kq with
                              | zero => exact absurd HA.out (by simp [letterbaglaw18_FieldPolys.j4])
                              | succ kj67 =>
                                have H := HA.out
                                clear HA
                                simp only [letterbaglaw18_FieldPolys.j4] at H
                                replace H := Option.bind_eq_some_iff.mp H
                                obtain ⟨t339, A840, H⟩ := H
                                replace H : (if t339 < 0 then (if t320 = 6 then (if (wrap64 ((t314.length : Int) + (t317.length : Int))) = 0 then ((letterbaglaw18_awake.f).bind fun t340 => (some t340)) else (some false)) else (some false)) else ((letterbagref18_Divide.f kj67 l0 l1).bind fun bt341 => (if t320 = 0 then ((letterbagkit_SameBytes.f kj67 t314 bt341.1).bind fun t347 => (if t347 = true then ((letterbagkit_SameBytes.f kj67 t317 bt341.2).bind fun t348 => (if t348 = true then ((letterbaglaw18_awake.f).bind fun t349 => (some t349)) else (some false))) else (some false))) else (some false)))) = some true := H
                                have A84 := Aside0.mk A840
                                clear A840
                                by_cases c85 : t339 < 0
                                · rw [if_pos c85] at H
                                  have c85b0 : decide (t339 < 0) = true := decide_eq_true c85
                                  clear c85
                                  by_cases c86 : t320 = 6
                                  · rw [if_pos c86] at H
                                    have c86b0 : (t320 == 6) = true := beq_iff_eq.mpr c86
                                    have c86b1 : (t320 != 6) = false := bne_eq_false_iff_eq.mpr c86
                                    clear c86
                                    by_cases c87 : (wrap64 ((t314.length : Int) + (t317.length : Int))) = 0
                                    · rw [if_pos c87] at H
                                      have c87b0 : ((wrap64 ((t314.length : Int) + (t317.length : Int))) == 0) = true := beq_iff_eq.mpr c87
                                      have c87b1 : ((wrap64 ((t314.length : Int) + (t317.length : Int))) != 0) = false := bne_eq_false_iff_eq.mpr c87
                                      clear c87
                                      replace H := Option.bind_eq_some_iff.mp H
                                      obtain ⟨t340, A880, H⟩ := H
                                      replace H : (some t340) = some true := H
                                      have A88 := Aside0.mk A880
                                      clear A880
                                      try exact absurd H (by decide)
                                      all_goals (have HTR := Aside0.mk (Option.some.inj H))
                                      all_goals (go_wp2_with (first | ((with_reducible refine gate_callee (f := 23) rfl ?_); refine goesL_ (some 172) rfl rfl Tryd.func23 (by kernel_rfl) rfl #[.slice A1 l1.length c1] rfl (by (try simp only [List.map_toArray, List.map_cons, List.map_nil]); first | done | rfl | (simp only [List.length_drop, List.length_take]; rfl)) ?_; (with_reducible refine (letterbagref18_Degree.calls kj67 _ _ l1 t339 _ ?side1 ?side2 A84.out).mono ?_); (case side1 => repeat (first | exact (Kd.C_below HR1.out HB.out) | (with_reducible refine Kd.C_alloc ?_ _) | (with_reducible refine Kd.C_drewN ?_ _) | (with_reducible refine Kd.C_drew ?_))); (case side2 => exact HC1.out); rintro e w' ⟨rfl, ⟨nd, rfl⟩⟩; refine ⟨_, rfl, ?_⟩; obtain ⟨Ao89, co89, eo89⟩ := Kd.R_slice HO_15.out; subst eo89; obtain ⟨Ao90, co90, eo90⟩ := Kd.R_slice HO_16.out; subst eo90) | (go_at_call 11; (with_reducible refine (letterbaglaw18_awake.calls  t340 _ ?side1 A88.out).mono ?_); (case side1 => repeat (first | exact (Kd.C_below HRT.out (by repeat (first | (with_reducible first | exact HB.out | apply below_alloc | apply pw_below_drewN | apply below_drew1) | exact HB.out))) | (with_reducible refine Kd.C_alloc ?_ _) | (with_reducible refine Kd.C_drewN ?_ _) | (with_reducible refine Kd.C_drew ?_))); rintro e w91 ⟨rfl, hb⟩; have n0_ := Aside0.mk (Kd.R_below (by (with_reducible repeat (first | apply Kd.R_alloc | apply Kd.R_drewN | apply Kd.R_drew)); exact HO_15.out) hb); have n1_ := Aside0.mk (Kd.R_below (by (with_reducible repeat (first | apply Kd.R_alloc | apply Kd.R_drewN | apply Kd.R_drew)); exact HO_16.out) hb); have n2_ := Aside0.mk (below_step (by repeat (first | (with_reducible first | exact HB.out | apply below_alloc | apply pw_below_drewN | apply below_drew1) | exact HB.out)) hb); clear HO_15; clear HO_16; clear HB; have HO_15 := n0_; have HO_16 := n1_; have HB := n2_; clear n0_ n1_ n2_; (try clear hb); (try clear hb2); (try clear hk); (try clear hi))))
                                      all_goals (go_ret)
                                      all_goals (exact ⟨by first | rfl | (rw [HTR.out]; rfl) | (simp [errW_none, errW_some] <;> rfl) | (simp [*, errW_none, errW_some] <;> rfl), by repeat (first | (with_reducible first | exact HB.out | apply below_alloc | apply pw_below_drewN | apply below_drew1) | exact HB.out)⟩)
                                    · rw [if_neg c87] at H
                                      have c87b0 : ((wrap64 ((t314.length : Int) + (t317.length : Int))) == 0) = false := beq_eq_false_iff_ne.mpr c87
                                      have c87b1 : ((wrap64 ((t314.length : Int) + (t317.length : Int))) != 0) = true := bne_iff_ne.mpr c87
                                      try exact absurd H (by decide)
                                      all_goals (have HTR := Aside0.mk (Option.some.inj H))
                                      all_goals (go_wp2_with (first | ((with_reducible refine gate_callee (f := 23) rfl ?_); refine goesL_ (some 172) rfl rfl Tryd.func23 (by kernel_rfl) rfl #[.slice A1 l1.length c1] rfl (by (try simp only [List.map_toArray, List.map_cons, List.map_nil]); first | done | rfl | (simp only [List.length_drop, List.length_take]; rfl)) ?_; (with_reducible refine (letterbagref18_Degree.calls kj67 _ _ l1 t339 _ ?side1 ?side2 A84.out).mono ?_); (case side1 => repeat (first | exact (Kd.C_below HR1.out HB.out) | (with_reducible refine Kd.C_alloc ?_ _) | (with_reducible refine Kd.C_drewN ?_ _) | (with_reducible refine Kd.C_drew ?_))); (case side2 => exact HC1.out); rintro e w' ⟨rfl, ⟨nd, rfl⟩⟩; refine ⟨_, rfl, ?_⟩; obtain ⟨Ao92, co92, eo92⟩ := Kd.R_slice HO_15.out; subst eo92; obtain ⟨Ao93, co93, eo93⟩ := Kd.R_slice HO_16.out; subst eo93)))
                                      all_goals (go_ret)
                                      all_goals (exact ⟨by first | rfl | (rw [HTR.out]; rfl) | (simp [errW_none, errW_some] <;> rfl) | (simp [*, errW_none, errW_some] <;> rfl), by repeat (first | (with_reducible first | exact HB.out | apply below_alloc | apply pw_below_drewN | apply below_drew1) | exact HB.out)⟩)
                                  · rw [if_neg c86] at H
                                    have c86b0 : (t320 == 6) = false := beq_eq_false_iff_ne.mpr c86
                                    have c86b1 : (t320 != 6) = true := bne_iff_ne.mpr c86
                                    try exact absurd H (by decide)
                                    all_goals (have HTR := Aside0.mk (Option.some.inj H))
                                    all_goals (go_wp2_with (first | ((with_reducible refine gate_callee (f := 23) rfl ?_); refine goesL_ (some 172) rfl rfl Tryd.func23 (by kernel_rfl) rfl #[.slice A1 l1.length c1] rfl (by (try simp only [List.map_toArray, List.map_cons, List.map_nil]); first | done | rfl | (simp only [List.length_drop, List.length_take]; rfl)) ?_; (with_reducible refine (letterbagref18_Degree.calls kj67 _ _ l1 t339 _ ?side1 ?side2 A84.out).mono ?_); (case side1 => repeat (first | exact (Kd.C_below HR1.out HB.out) | (with_reducible refine Kd.C_alloc ?_ _) | (with_reducible refine Kd.C_drewN ?_ _) | (with_reducible refine Kd.C_drew ?_))); (case side2 => exact HC1.out); rintro e w' ⟨rfl, ⟨nd, rfl⟩⟩; refine ⟨_, rfl, ?_⟩)))
                                    all_goals (go_ret)
                                    all_goals (exact ⟨by first | rfl | (rw [HTR.out]; rfl) | (simp [errW_none, errW_some] <;> rfl) | (simp [*, errW_none, errW_some] <;> rfl), by repeat (first | (with_reducible first | exact HB.out | apply below_alloc | apply pw_below_drewN | apply below_drew1) | exact HB.out)⟩)
                                · rw [if_neg c85] at H
                                  have c85b0 : decide (t339 < 0) = false := decide_eq_false c85
                                  clear c85
                                  replace H := Option.bind_eq_some_iff.mp H
                                  obtain ⟨⟨t341, t342⟩, A940, H⟩ := H
                                  replace H : (if t320 = 0 then ((letterbagkit_SameBytes.f kj67 t314 t341).bind fun t347 => (if t347 = true then ((letterbagkit_SameBytes.f kj67 t317 t342).bind fun t348 => (if t348 = true then ((letterbaglaw18_awake.f).bind fun t349 => (some t349)) else (some false))) else (some false))) else (some false)) = some true := H
                                  have A94 := Aside0.mk A940
                                  clear A940
                                  by_cases c95 : t320 = 0
                                  · rw [if_pos c95] at H
                                    have c95b0 : (t320 == 0) = true := beq_iff_eq.mpr c95
                                    have c95b1 : (t320 != 0) = false := bne_eq_false_iff_eq.mpr c95
                                    clear c95
                                    replace H := Option.bind_eq_some_iff.mp H
                                    obtain ⟨t347, A960, H⟩ := H
                                    replace H : (if t347 = true then ((letterbagkit_SameBytes.f kj67 t317 t342).bind fun t348 => (if t348 = true then ((letterbaglaw18_awake.f).bind fun t349 => (some t349)) else (some false))) else (some false)) = some true := H
                                    have A96 := Aside0.mk A960
                                    clear A960
                                    by_cases c97 : t347 = true
                                    · subst c97
                                      have H1 : ((letterbagkit_SameBytes.f kj67 t317 t342).bind fun t348 => (if t348 = true then ((letterbaglaw18_awake.f).bind fun t349 => (some t349)) else (some false))) = some true := by rw [if_pos rfl] at H; exact H
                                      clear H
                                      have H := H1
                                      clear H1
                                      replace H := Option.bind_eq_some_iff.mp H
                                      obtain ⟨t348, A980, H⟩ := H
                                      replace H : (if t348 = true then ((letterbaglaw18_awake.f).bind fun t349 => (some t349)) else (some false)) = some true := H
                                      have A98 := Aside0.mk A980
                                      clear A980
                                      by_cases c99 : t348 = true
                                      · subst c99
                                        have H1 : ((letterbaglaw18_awake.f).bind fun t349 => (some t349)) = some true := by rw [if_pos rfl] at H; exact H
                                        clear H
                                        have H := H1
                                        clear H1
                                        replace H := Option.bind_eq_some_iff.mp H
                                        obtain ⟨t349, A1000, H⟩ := H
                                        replace H : (some t349) = some true := H
                                        have A100 := Aside0.mk A1000
                                        clear A1000
                                        try exact absurd H (by decide)
                                        all_goals (have HTR := Aside0.mk (Option.some.inj H))
                                        all_goals (go_wp2_with (first | ((with_reducible refine gate_callee (f := 23) rfl ?_); refine goesL_ (some 172) rfl rfl Tryd.func23 (by kernel_rfl) rfl #[.slice A1 l1.length c1] rfl (by (try simp only [List.map_toArray, List.map_cons, List.map_nil]); first | done | rfl | (simp only [List.length_drop, List.length_take]; rfl)) ?_; (with_reducible refine (letterbagref18_Degree.calls kj67 _ _ l1 t339 _ ?side1 ?side2 A84.out).mono ?_); (case side1 => repeat (first | exact (Kd.C_below HR1.out HB.out) | (with_reducible refine Kd.C_alloc ?_ _) | (with_reducible refine Kd.C_drewN ?_ _) | (with_reducible refine Kd.C_drew ?_))); (case side2 => exact HC1.out); rintro e w' ⟨rfl, ⟨nd, rfl⟩⟩; refine ⟨_, rfl, ?_⟩) | ((with_reducible refine gate_callee (f := 26) rfl ?_); refine goesL_ (some 190) rfl rfl Tryd.func26 (by kernel_rfl) rfl #[.slice A0 l0.length c0, .slice A1 l1.length c1] rfl (by (try simp only [List.map_toArray, List.map_cons, List.map_nil]); first | done | rfl | (simp only [List.length_drop, List.length_take]; rfl)) ?_; (with_reducible refine (letterbagref18_Divide.calls kj67 _ _ l0 _ _ l1 t341 t342 _ ?side1 ?side2 ?side3 ?side4 A94.out).mono ?_); (case side1 => repeat (first | exact (Kd.C_below HR0.out (by repeat (first | (with_reducible first | exact HB.out | apply below_alloc | apply pw_below_drewN | apply below_drew1) | exact HB.out))) | (with_reducible refine Kd.C_alloc ?_ _) | (with_reducible refine Kd.C_drewN ?_ _) | (with_reducible refine Kd.C_drew ?_))); (case side2 => exact HC0.out); (case side3 => repeat (first | exact (Kd.C_below HR1.out (by repeat (first | (with_reducible first | exact HB.out | apply below_alloc | apply pw_below_drewN | apply below_drew1) | exact HB.out))) | (with_reducible refine Kd.C_alloc ?_ _) | (with_reducible refine Kd.C_drewN ?_ _) | (with_reducible refine Kd.C_drew ?_))); (case side4 => exact HC1.out); rintro e w101 ⟨v343, v345, rfl, ho0, ho1, hb⟩; refine ⟨_, rfl, ?_⟩; have n0_ := Aside0.mk (Kd.R_mono (Kd.R_told (Kd.R_told (Kd.R_old (by (with_reducible repeat (first | apply Kd.R_alloc | apply Kd.R_drewN | apply Kd.R_drew)); exact HO_15.out) hb) (Kd.R_base ho0)) (Kd.R_base ho1)) (fun _ h_ => h_.1)); have n1_ := Aside0.mk (Kd.R_mono (Kd.R_told (Kd.R_told (Kd.R_old (by (with_reducible repeat (first | apply Kd.R_alloc | apply Kd.R_drewN | apply Kd.R_drew)); exact HO_16.out) hb) (Kd.R_base ho0)) (Kd.R_base ho1)) (fun _ h_ => h_.1)); have n2_ := Aside0.mk (Kd.R_lower (Kd.R_new' (Kd.R_new' ho0 (Kd.R_lt (by (with_reducible repeat (first | apply Kd.R_alloc | apply Kd.R_drewN | apply Kd.R_drew)); exact HO_15.out))) (Kd.R_lt (by (with_reducible repeat (first | apply Kd.R_alloc | apply Kd.R_drewN | apply Kd.R_drew)); exact HO_16.out))) (below_size (by repeat (first | (with_reducible first | exact HB.out | apply below_alloc | apply pw_below_drewN | apply below_drew1) | exact HB.out)))); have n3_ := Aside0.mk (Kd.R_lower (Kd.R_new' (Kd.R_new' ho1 (Kd.R_lt (by (with_reducible repeat (first | apply Kd.R_alloc | apply Kd.R_drewN | apply Kd.R_drew)); exact HO_15.out))) (Kd.R_lt (by (with_reducible repeat (first | apply Kd.R_alloc | apply Kd.R_drewN | apply Kd.R_drew)); exact HO_16.out))) (below_size (by repeat (first | (with_reducible first | exact HB.out | apply below_alloc | apply pw_below_drewN | apply below_drew1) | exact HB.out)))); have n4_ := Aside0.mk (below_step (by repeat (first | (with_reducible first | exact HB.out | apply below_alloc | apply pw_below_drewN | apply below_drew1) | exact HB.out)) hb); clear HO_15; clear HO_16; clear HB; have HO_15 := n0_; have HO_16 := n1_; have HO344 := n2_; have HO346 := n3_; have HB := n4_; clear n0_ n1_ n2_ n3_ n4_; (try clear hb); (try clear hb2); (try clear hk); (try clear hi); (try clear ho0); (try clear ho1); obtain ⟨Ao102, co102, eo102⟩ := Kd.R_slice HO_15.out; subst eo102; obtain ⟨Ao103, co103, eo103⟩ := Kd.R_slice HO344.out; subst eo103) | (go_at_call 21; (with_reducible refine (letterbagkit_SameBytes.calls kj67 _ _ t314 _ _ t341 true _ ?side1 ?side2 ?side3 ?side4 A96.out).mono ?_); (case side1 => repeat (first | exact (Kd.R_reads' HO_15.out).2.2 | (with_reducible refine Kd.C_alloc ?_ _) | (with_reducible refine Kd.C_drewN ?_ _) | (with_reducible refine Kd.C_drew ?_))); (case side2 => exact (Kd.R_reads' HO_15.out).2.1); (case side3 => repeat (first | exact (Kd.R_reads' HO344.out).2.2 | (with_reducible refine Kd.C_alloc ?_ _) | (with_reducible refine Kd.C_drewN ?_ _) | (with_reducible refine Kd.C_drew ?_))); (case side4 => exact (Kd.R_reads' HO344.out).2.1); rintro e w' ⟨rfl, ⟨nd, rfl⟩⟩; obtain ⟨Ao104, co104, eo104⟩ := Kd.R_slice HO_16.out; subst eo104; obtain ⟨Ao105, co105, eo105⟩ := Kd.R_slice HO346.out; subst eo105) | (go_at_call 21; (with_reducible refine (letterbagkit_SameBytes.calls kj67 _ _ t317 _ _ t342 true _ ?side1 ?side2 ?side3 ?side4 A98.out).mono ?_); (case side1 => repeat (first | exact (Kd.R_reads' HO_16.out).2.2 | (with_reducible refine Kd.C_alloc ?_ _) | (with_reducible refine Kd.C_drewN ?_ _) | (with_reducible refine Kd.C_drew ?_))); (case side2 => exact (Kd.R_reads' HO_16.out).2.1); (case side3 => repeat (first | exact (Kd.R_reads' HO346.out).2.2 | (with_reducible refine Kd.C_alloc ?_ _) | (with_reducible refine Kd.C_drewN ?_ _) | (with_reducible refine Kd.C_drew ?_))); (case side4 => exact (Kd.R_reads' HO346.out).2.1); rintro e w' ⟨rfl, ⟨nd, rfl⟩⟩) | (go_at_call 11; (with_reducible refine (letterbaglaw18_awake.calls  t349 _ ?side1 A100.out).mono ?_); (case side1 => repeat (first | exact (Kd.C_below HRT.out (by repeat (first | (with_reducible first | exact HB.out | apply below_alloc | apply pw_below_drewN | apply below_drew1) | exact HB.out))) | (with_reducible refine Kd.C_alloc ?_ _) | (with_reducible refine Kd.C_drewN ?_ _) | (with_reducible refine Kd.C_drew ?_))); rintro e w106 ⟨rfl, hb⟩; have n0_ := Aside0.mk (Kd.R_below (by (with_reducible repeat (first | apply Kd.R_alloc | apply Kd.R_drewN | apply Kd.R_drew)); exact HO_15.out) hb); have n1_ := Aside0.mk (Kd.R_below (by (with_reducible repeat (first | apply Kd.R_alloc | apply Kd.R_drewN | apply Kd.R_drew)); exact HO_16.out) hb); have n2_ := Aside0.mk (Kd.R_below (by (with_reducible repeat (first | apply Kd.R_alloc | apply Kd.R_drewN | apply Kd.R_drew)); exact HO344.out) hb); have n3_ := Aside0.mk (Kd.R_below (by (with_reducible repeat (first | apply Kd.R_alloc | apply Kd.R_drewN | apply Kd.R_drew)); exact HO346.out) hb); have n4_ := Aside0.mk (below_step (by repeat (first | (with_reducible first | exact HB.out | apply below_alloc | apply pw_below_drewN | apply below_drew1) | exact HB.out)) hb); clear HO_15; clear HO_16; clear HO344; clear HO346; clear HB; have HO_15 := n0_; have HO_16 := n1_; have HO344 := n2_; have HO346 := n3_; have HB := n4_; clear n0_ n1_ n2_ n3_ n4_; (try clear hb); (try clear hb2); (try clear hk); (try clear hi))))
                                        all_goals (go_ret)
                                        all_goals (exact ⟨by first | rfl | (rw [HTR.out]; rfl) | (simp [errW_none, errW_some] <;> rfl) | (simp [*, errW_none, errW_some] <;> rfl), by repeat (first | (with_reducible first | exact HB.out | apply below_alloc | apply pw_below_drewN | apply below_drew1) | exact HB.out)⟩)
                                      · replace c99 := Bool.eq_false_iff.mpr c99
                                        subst c99
                                        have H1 : (some false) = some true := by rw [if_neg (show ¬ (false = true) by decide)] at H; exact H
                                        exact absurd H1 (by decide)
                                    · replace c97 := Bool.eq_false_iff.mpr c97
                                      subst c97
                                      have H1 : (some false) = some true := by rw [if_neg (show ¬ (false = true) by decide)] at H; exact H
                                      exact absurd H1 (by decide)
                                  · rw [if_neg c95] at H
                                    have c95b0 : (t320 == 0) = false := beq_eq_false_iff_ne.mpr c95
                                    have c95b1 : (t320 != 0) = true := bne_iff_ne.mpr c95
                                    try exact absurd H (by decide)
                                    all_goals (have HTR := Aside0.mk (Option.some.inj H))
                                    all_goals (go_wp2_with (first | ((with_reducible refine gate_callee (f := 23) rfl ?_); refine goesL_ (some 172) rfl rfl Tryd.func23 (by kernel_rfl) rfl #[.slice A1 l1.length c1] rfl (by (try simp only [List.map_toArray, List.map_cons, List.map_nil]); first | done | rfl | (simp only [List.length_drop, List.length_take]; rfl)) ?_; (with_reducible refine (letterbagref18_Degree.calls kj67 _ _ l1 t339 _ ?side1 ?side2 A84.out).mono ?_); (case side1 => repeat (first | exact (Kd.C_below HR1.out HB.out) | (with_reducible refine Kd.C_alloc ?_ _) | (with_reducible refine Kd.C_drewN ?_ _) | (with_reducible refine Kd.C_drew ?_))); (case side2 => exact HC1.out); rintro e w' ⟨rfl, ⟨nd, rfl⟩⟩; refine ⟨_, rfl, ?_⟩) | ((with_reducible refine gate_callee (f := 26) rfl ?_); refine goesL_ (some 190) rfl rfl Tryd.func26 (by kernel_rfl) rfl #[.slice A0 l0.length c0, .slice A1 l1.length c1] rfl (by (try simp only [List.map_toArray, List.map_cons, List.map_nil]); first | done | rfl | (simp only [List.length_drop, List.length_take]; rfl)) ?_; (with_reducible refine (letterbagref18_Divide.calls kj67 _ _ l0 _ _ l1 t341 t342 _ ?side1 ?side2 ?side3 ?side4 A94.out).mono ?_); (case side1 => repeat (first | exact (Kd.C_below HR0.out (by repeat (first | (with_reducible first | exact HB.out | apply below_alloc | apply pw_below_drewN | apply below_drew1) | exact HB.out))) | (with_reducible refine Kd.C_alloc ?_ _) | (with_reducible refine Kd.C_drewN ?_ _) | (with_reducible refine Kd.C_drew ?_))); (case side2 => exact HC0.out); (case side3 => repeat (first | exact (Kd.C_below HR1.out (by repeat (first | (with_reducible first | exact HB.out | apply below_alloc | apply pw_below_drewN | apply below_drew1) | exact HB.out))) | (with_reducible refine Kd.C_alloc ?_ _) | (with_reducible refine Kd.C_drewN ?_ _) | (with_reducible refine Kd.C_drew ?_))); (case side4 => exact HC1.out); rintro e w115 ⟨v343, v345, rfl, ho0, ho1, hb⟩; refine ⟨_, rfl, ?_⟩; have n0_ := Aside0.mk (Kd.R_mono (Kd.R_told (Kd.R_told (Kd.R_old (by (with_reducible repeat (first | apply Kd.R_alloc | apply Kd.R_drewN | apply Kd.R_drew)); exact HO_15.out) hb) (Kd.R_base ho0)) (Kd.R_base ho1)) (fun _ h_ => h_.1)); have n1_ := Aside0.mk (Kd.R_mono (Kd.R_told (Kd.R_told (Kd.R_old (by (with_reducible repeat (first | apply Kd.R_alloc | apply Kd.R_drewN | apply Kd.R_drew)); exact HO_16.out) hb) (Kd.R_base ho0)) (Kd.R_base ho1)) (fun _ h_ => h_.1)); have n2_ := Aside0.mk (Kd.R_lower (Kd.R_new' (Kd.R_new' ho0 (Kd.R_lt (by (with_reducible repeat (first | apply Kd.R_alloc | apply Kd.R_drewN | apply Kd.R_drew)); exact HO_15.out))) (Kd.R_lt (by (with_reducible repeat (first | apply Kd.R_alloc | apply Kd.R_drewN | apply Kd.R_drew)); exact HO_16.out))) (below_size (by repeat (first | (with_reducible first | exact HB.out | apply below_alloc | apply pw_below_drewN | apply below_drew1) | exact HB.out)))); have n3_ := Aside0.mk (Kd.R_lower (Kd.R_new' (Kd.R_new' ho1 (Kd.R_lt (by (with_reducible repeat (first | apply Kd.R_alloc | apply Kd.R_drewN | apply Kd.R_drew)); exact HO_15.out))) (Kd.R_lt (by (with_reducible repeat (first | apply Kd.R_alloc | apply Kd.R_drewN | apply Kd.R_drew)); exact HO_16.out))) (below_size (by repeat (first | (with_reducible first | exact HB.out | apply below_alloc | apply pw_below_drewN | apply below_drew1) | exact HB.out)))); have n4_ := Aside0.mk (below_step (by repeat (first | (with_reducible first | exact HB.out | apply below_alloc | apply pw_below_drewN | apply below_drew1) | exact HB.out)) hb); clear HO_15; clear HO_16; clear HB; have HO_15 := n0_; have HO_16 := n1_; have HO344 := n2_; have HO346 := n3_; have HB := n4_; clear n0_ n1_ n2_ n3_ n4_; (try clear hb); (try clear hb2); (try clear hk); (try clear hi); (try clear ho0); (try clear ho1))))
                                    all_goals (go_ret)
                                    all_goals (exact ⟨by first | rfl | (rw [HTR.out]; rfl) | (simp [errW_none, errW_some] <;> rfl) | (simp [*, errW_none, errW_some] <;> rfl), by repeat (first | (with_reducible first | exact HB.out | apply below_alloc | apply pw_below_drewN | apply below_drew1) | exact HB.out)⟩)
                          · replace c66 := Bool.eq_false_iff.mpr c66
                            subst c66
                            have H1 : (some false) = some true := by rw [if_neg (show ¬ (false = true) by decide)] at H; exact H
                            exact absurd H1 (by decide)
                        · rw [if_neg c63] at H
                          have c63b0 : (t324 == 0) = false := beq_eq_false_iff_ne.mpr c63
                          have c63b1 : (t324 != 0) = true := bne_iff_ne.mpr c63
                          by_cases c119 : t313 = t324
                          · rw [if_pos c119] at H
                            have c119b0 : (t313 == t324) = true := beq_iff_eq.mpr c119
                            have c119b1 : (t313 != t324) = false := bne_eq_false_iff_eq.mpr c119
                            clear c119
                            by_cases c120 : t320 = t324
                            · rw [if_pos c120] at H
                              have c120b0 : (t320 == t324) = true := beq_iff_eq.mpr c120
                              have c120b1 : (t320 != t324) = false := bne_eq_false_iff_eq.mpr c120
                              clear c120
                              by_cases c121 : (wrap64 ((wrap64 ((wrap64 ((t306.length : Int) + (t310.length : Int))) + (t314.length : Int))) + (t317.length : Int))) = 0
                              · rw [if_pos c121] at H
                                have c121b0 : ((wrap64 ((wrap64 ((wrap64 ((t306.length : Int) + (t310.length : Int))) + (t314.length : Int))) + (t317.length : Int))) == 0) = true := beq_iff_eq.mpr c121
                                have c121b1 : ((wrap64 ((wrap64 ((wrap64 ((t306.length : Int) + (t310.length : Int))) + (t314.length : Int))) + (t317.length : Int))) != 0) = false := bne_eq_false_iff_eq.mpr c121
                                clear c121
                                replace H := Option.bind_eq_some_iff.mp H
                                obtain ⟨t330, A1220, H⟩ := H
                                replace H : (some t330) = some true := H
                                have A122 := Aside0.mk A1220
                                clear A1220
                                try exact absurd H (by decide)
                                all_goals (have HTR := Aside0.mk (Option.some.inj H))
                                all_goals (obtain ⟨Ao123, co123, eo123⟩ := Kd.R_slice HO_11.out)
                                all_goals (subst eo123)
                                all_goals (obtain ⟨Ao124, co124, eo124⟩ := Kd.R_slice HO_13.out)
                                all_goals (subst eo124)
                                all_goals (obtain ⟨Ao125, co125, eo125⟩ := Kd.R_slice HO_15.out)
                                all_goals (subst eo125)
                                all_goals (obtain ⟨Ao126, co126, eo126⟩ := Kd.R_slice HO_16.out)
                                all_goals (subst eo126)
                                all_goals (go_wp2_with (first | (go_at_call 11; (with_reducible refine (letterbaglaw18_awake.calls  t330 _ ?side1 A122.out).mono ?_); (case side1 => repeat (first | exact (Kd.C_below HRT.out HB.out) | (with_reducible refine Kd.C_alloc ?_ _) | (with_reducible refine Kd.C_drewN ?_ _) | (with_reducible refine Kd.C_drew ?_))); rintro e w127 ⟨rfl, hb⟩; have n0_ := Aside0.mk (Kd.R_below (by (with_reducible repeat (first | apply Kd.R_alloc | apply Kd.R_drewN | apply Kd.R_drew)); exact HO_11.out) hb); have n1_ := Aside0.mk (Kd.R_below (by (with_reducible repeat (first | apply Kd.R_alloc | apply Kd.R_drewN | apply Kd.R_drew)); exact HO_13.out) hb); have n2_ := Aside0.mk (Kd.R_below (by (with_reducible repeat (first | apply Kd.R_alloc | apply Kd.R_drewN | apply Kd.R_drew)); exact HO_15.out) hb); have n3_ := Aside0.mk (Kd.R_below (by (with_reducible repeat (first | apply Kd.R_alloc | apply Kd.R_drewN | apply Kd.R_drew)); exact HO_16.out) hb); have n4_ := Aside0.mk (below_step (by repeat (first | (with_reducible first | exact HB.out | apply below_alloc | apply pw_below_drewN | apply below_drew1) | exact HB.out)) hb); clear HO_11; clear HO_13; clear HO_15; clear HO_16; clear HB; have HO_11 := n0_; have HO_13 := n1_; have HO_15 := n2_; have HO_16 := n3_; have HB := n4_; clear n0_ n1_ n2_ n3_ n4_; (try clear hb); (try clear hb2); (try clear hk); (try clear hi))))
                                all_goals (go_ret)
                                all_goals (exact ⟨by first | rfl | (rw [HTR.out]; rfl) | (simp [errW_none, errW_some] <;> rfl) | (simp [*, errW_none, errW_some] <;> rfl), by repeat (first | (with_reducible first | exact HB.out | apply below_alloc | apply pw_below_drewN | apply below_drew1) | exact HB.out)⟩)
                              · rw [if_neg c121] at H
                                have c121b0 : ((wrap64 ((wrap64 ((wrap64 ((t306.length : Int) + (t310.length : Int))) + (t314.length : Int))) + (t317.length : Int))) == 0) = false := beq_eq_false_iff_ne.mpr c121
                                have c121b1 : ((wrap64 ((wrap64 ((wrap64 ((t306.length : Int) + (t310.length : Int))) + (t314.length : Int))) + (t317.length : Int))) != 0) = true := bne_iff_ne.mpr c121
                                try exact absurd H (by decide)
                                all_goals (have HTR := Aside0.mk (Option.some.inj H))
                                all_goals (obtain ⟨Ao128, co128, eo128⟩ := Kd.R_slice HO_11.out)
                                all_goals (subst eo128)
                                all_goals (obtain ⟨Ao129, co129, eo129⟩ := Kd.R_slice HO_13.out)
                                all_goals (subst eo129)
                                all_goals (obtain ⟨Ao130, co130, eo130⟩ := Kd.R_slice HO_15.out)
                                all_goals (subst eo130)
                                all_goals (obtain ⟨Ao131, co131, eo131⟩ := Kd.R_slice HO_16.out)
                                all_goals (subst eo131)
                                all_goals (go_wp2)
                                all_goals (go_ret)
                                all_goals (exact ⟨by first | rfl | (rw [HTR.out]; rfl) | (simp [errW_none, errW_some] <;> rfl) | (simp [*, errW_none, errW_some] <;> rfl), by repeat (first | (with_reducible first | exact HB.out | apply below_alloc | apply pw_below_drewN | apply below_drew1) | exact HB.out)⟩)
                            · rw [if_neg c120] at H
                              have c120b0 : (t320 == t324) = false := beq_eq_false_iff_ne.mpr c120
                              have c120b1 : (t320 != t324) = true := bne_iff_ne.mpr c120
                              try exact absurd H (by decide)
                              all_goals (have HTR := Aside0.mk (Option.some.inj H))
                              all_goals (go_wp2)
                              all_goals (go_ret)
                              all_goals (exact ⟨by first | rfl | (rw [HTR.out]; rfl) | (simp [errW_none, errW_some] <;> rfl) | (simp [*, errW_none, errW_some] <;> rfl), by repeat (first | (with_reducible first | exact HB.out | apply below_alloc | apply pw_below_drewN | apply below_drew1) | exact HB.out)⟩)
                          · rw [if_neg c119] at H
                            have c119b0 : (t313 == t324) = false := beq_eq_false_iff_ne.mpr c119
                            have c119b1 : (t313 != t324) = true := bne_iff_ne.mpr c119
                            try exact absurd H (by decide)
                            all_goals (have HTR := Aside0.mk (Option.some.inj H))
                            all_goals (go_wp2)
                            all_goals (go_ret)
                            all_goals (exact ⟨by first | rfl | (rw [HTR.out]; rfl) | (simp [errW_none, errW_some] <;> rfl) | (simp [*, errW_none, errW_some] <;> rfl), by repeat (first | (with_reducible first | exact HB.out | apply below_alloc | apply pw_below_drewN | apply below_drew1) | exact HB.out)⟩)
theorem letterbaglaw18_FieldPolys.walk (P : letterbaglaw18_FieldPolys.Pure) (a0 : Option Addr) (len0 cap0 : Nat) (z0 : List Int) (a1 : Option Addr) (len1 cap1 : Nat) (z1 : List Int) (w : World) (w0 : (a0 = none ∧ len0 = 0 ∧ cap0 = 0 ∧ z0 = []) ∨ ∃ x, a0 = some x ∧ len0 ≤ cap0 ∧ cap0 ≤ maxLen ∧ z0.length = cap0 ∧ (∀ i, i < z0.length → w.cell? (x.add i) = some (.int .u8 (z0.getD i 0))) ∧ ∀ n ∈ z0, (Lit.int .u8 n).wf = true) (y0 : len0 * 1 ≤ 140737488351232) (w1 : (a1 = none ∧ len1 = 0 ∧ cap1 = 0 ∧ z1 = []) ∨ ∃ x, a1 = some x ∧ len1 ≤ cap1 ∧ cap1 ≤ maxLen ∧ z1.length = cap1 ∧ (∀ i, i < z1.length → w.cell? (x.add i) = some (.int .u8 (z1.getD i 0))) ∧ ∀ n ∈ z1, (Lit.int .u8 n).wf = true) (y1 : len1 * 1 ≤ 140737488351232) (hT : Kd.C (Kd.int .u8) w (some ⟨0, 0, none⟩) 63 pwI) :
    Calls Tryd.prog 3 #[.slice a0 len0 cap0, .slice a1 len1 cap1] w fun e w' => e = .returned (.bool true) ∧ Below w.heap.size w w' := by
  obtain ⟨l0, rfl, hr0, hm0, hw0, hc0⟩ := ReadsInt.ofRowC w0
  obtain ⟨l1, rfl, hr1, hm1, hw1, hc1⟩ := ReadsInt.ofRowC w1
  obtain ⟨k, h⟩ := P l0 l1 hm0 y0 hw0 hm1 y1 hw1
  refine (letterbaglaw18_FieldPolys.calls k _ _ l0 _ _ l1 w (Kd.C_of_reads (d := (0 : Int)) (h1 := fun _ => rfl) hr0) hc0 (Kd.C_of_reads (d := (0 : Int)) (h1 := fun _ => rfl) hr1) hc1 hT h).mono ?_
  rintro e w' ⟨rfl, hd⟩
  exact ⟨rfl, hd⟩
end Go.Proofs.YtehgfpfmpkmdmaaDoor.Print
