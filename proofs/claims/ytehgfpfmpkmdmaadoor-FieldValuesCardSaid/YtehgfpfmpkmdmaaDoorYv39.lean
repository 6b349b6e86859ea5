-- Gvc (what this claim uses of them)
import Derived.Test.YtehgfpfmpkmdmaaDoorYv37
namespace Go.Proofs.YtehgfpfmpkmdmaaDoor.Print
open Go.RowKit Go.Proofs.YtehgfpfmpkmdmaaDoorW.PrintWords Go.Proofs.YtehgfpfmpkmdmaaDoorW.PrintLast Go.Proofs.YtehgfpfmpkmdmaaDoorW.PrintMore
attribute [local go_sem] max2_int min2_int max_two min_two max_three min_three max_four min_four   -- for this text's walks alone
set_option linter.unusedVariables false
set_option linter.unusedSimpArgs false
namespace Gva
/-- The call overwrote a block of our own. -/
theorem over_below {w0 w w' : World} {row : Option Nat} (h : Below w0.heap.size w0 w) (hg : w.grownBy w' row) (hr : ∀ k, row = some k → w0.heap.size ≤ k) : Below w0.heap.size w0 w' :=
  ⟨hg.os.trans h.os, hg.tape.trans h.tape, hg.output.trans h.output, Nat.le_trans h.size hg.size, fun k hk => (hg.block k (Nat.lt_of_lt_of_le hk h.size) (fun e => Nat.lt_irrefl _ (Nat.lt_of_lt_of_le hk (hr k e.symm)))).trans (h.block k hk)⟩
theorem lent_cap {w : World} {A : Option Addr} {n c : Nat} {l : List Int} (h : Lent w (.slice A n c) l) : l.length + 12 ≤ c := by
  obtain ⟨A', c', e, h1, _⟩ := h
  injection e with e1 e2 e3
  subst e3
  rw [List.length_append, mks_len] at h1
  exact h1
end Gva
open Gva
theorem no_j1 : ∀ k x0 x1 x2 x3 x4 x5 x6 x7 x8 x9 x10 x11, letterbaglaw18_FieldValues.j1 k x0 x1 x2 x3 x4 x5 x6 x7 x8 x9 x10 x11 true = some true → False := by
  intro k x0 x1 x2 x3 x4 x5 x6 x7 x8 x9 x10 x11 h
  cases k with
  | zero => simp [letterbaglaw18_FieldValues.j1] at h
  | succ k => simp [letterbaglaw18_FieldValues.j1] at h
theorem no_j2 : ∀ k x0 x1 x2 x3 x4 x5 x6, letterbaglaw18_FieldValues.j2 k x0 x1 x2 x3 x4 x5 x6 true = some true → False := by
  intro k x0 x1 x2 x3 x4 x5 x6 h
  cases k with
  | zero => simp [letterbaglaw18_FieldValues.j2] at h
  | succ k => simp [letterbaglaw18_FieldValues.j2] at h
set_option maxHeartbeats 8000000 in
set_option maxRecDepth 100000 in
theorem letterbaglaw18_FieldValues.calls (k : Nat) (A0 : Option Addr) (c0 : Nat) (l0 : List Int) (a1 : Int) (A2 : Option Addr) (c2 : Nat) (l2 : List Int) (A3 : Option Addr) (c3 : Nat) (l3 : List Int) (w : World) (hr0 : Kd.C (Kd.int .u8) w A0 l0.length l0) (hc0 : l0.length ≤ c0) (hr2 : Kd.C (Kd.int .u8) w A2 l2.length l2) (hc2 : l2.length ≤ c2) (hr3 : Kd.C (Kd.int .u8) w A3 l3.length l3) (hc3 : l3.length ≤ c3) (hT : Kd.C (Kd.int .u8) w (some ⟨0, 0, none⟩) 63 pwI) (h : letterbaglaw18_FieldValues.f k l0 a1 l2 l3 = some true) :
    Calls Tryd.prog 7 #[.slice A0 l0.length c0, .int .u8 a1, .slice A2 l2.length c2, .slice A3 l3.length c3] w fun e w' => e = .returned (.bool true) ∧ Below w.heap.size w w' := by
  have HR0 := Aside0.mk hr0
  have HC0 := Aside0.mk hc0
  clear hr0 hc0
  have HR2 := Aside0.mk hr2
  have HC2 := Aside0.mk hc2
  clear hr2 hc2
  have HR3 := Aside0.mk hr3
  have HC3 := Aside0.mk hc3
  clear hr3 hc3
  have HRT := Aside0.mk hT
  clear hT
  have HB := Aside0.mk (Below.refl w.heap.size w)
  have H : (if (l0.length : Int) > 200 then (letterbaglaw18_FieldValues.j0 k l0 a1 l2 l3 true) else (if (l2.length : Int) > 200 then (letterbaglaw18_FieldValues.j0 k l0 a1 l2 l3 true) else (letterbaglaw18_FieldValues.j0 k l0 a1 l2 l3 (decide ((l3.length : Int) > 200))))) = some true := h
  clear h
  have HC5 := Aside0.mk H
  clear H
  go_enter Tryd.func7, Tryd.ntmps7
  go_upto_region 1 with (fail)
  go_cut [35] (fun v35 wc => ∃ (kq : Nat) (x35_4 : Bool), v35 = .bool x35_4 ∧ Aside0 (letterbaglaw18_FieldValues.j0 kq l0 a1 l2 l3 x35_4 = some true) ∧ Aside0 (kq ≤ k) ∧ Aside0 (Below w.heap.size w wc))
  case first =>
    have H := HC5.out
    clear HC5
    by_cases c6 : (l0.length : Int) > 200
    · rw [if_pos c6] at H
      have c6b0 : decide (200 < (l0.length : Int)) = true := decide_eq_true c6
      have c6b1 : decide (200 < l0.length) = true := decide_eq_true (by omega)
      clear c6
      (first | rw [c6b0] | (simp only [i64_w, i32_w]; rw [c6b0]) | skip)
      have H' := Aside0.mk H
      clear H
      go_wp2
      go_meet
      case rel => exact ⟨_, (true), (by first | rfl | (simp; done) | (simp [*]; done)), H', ⟨by first | omega | exact Nat.le_refl _⟩, ⟨by repeat (first | (with_reducible first | exact HB.out | apply below_alloc | apply pw_below_drewN | apply below_drew1) | exact HB.out)⟩⟩
    · rw [if_neg c6] at H
      have c6b0 : decide (200 < (l0.length : Int)) = false := decide_eq_false c6
      have c6b1 : decide (200 < l0.length) = false := decide_eq_false (by omega)
      clear c6
      (first | rw [c6b0] | (simp only [i64_w, i32_w]; rw [c6b0]) | skip)
      by_cases c7 : (l2.length : Int) > 200
      · rw [if_pos c7] at H
        have c7b0 : decide (200 < (l2.length : Int)) = true := decide_eq_true c7
        have c7b1 : decide (200 < l2.length) = true := decide_eq_true (by omega)
        clear c7
        have H' := Aside0.mk H
        clear H
        go_wp2
        go_meet
        case rel => exact ⟨_, (true), (by first | rfl | (simp; done) | (simp [*]; done)), H', ⟨by first | omega | exact Nat.le_refl _⟩, ⟨by repeat (first | (with_reducible first | exact HB.out | apply below_alloc | apply pw_below_drewN | apply below_drew1) | exact HB.out)⟩⟩
      · rw [if_neg c7] at H
        have c7b0 : decide (200 < (l2.length : Int)) = false := decide_eq_false c7
        have c7b1 : decide (200 < l2.length) = false := decide_eq_false (by omega)
        clear c7
        have H' := Aside0.mk H
        clear H
        go_wp2
        go_meet
        case rel => exact ⟨_, (decide ((l3.length : Int) > 200)), (by first | rfl | (simp; done) | (simp [*]; done)), H', ⟨by first | omega | exact Nat.le_refl _⟩, ⟨by repeat (first | (with_reducible first | exact HB.out | apply below_alloc | apply pw_below_drewN | apply below_drew1) | exact HB.out)⟩⟩
  case rest =>
    clear HC5
    try clear c2
    try clear p2
    try clear c3
    try clear c6
    try clear c6b0
    try clear c6b1
    try clear c7
    try clear c7b0
    try clear c7b1
    obtain ⟨kq, x35_4, rfl, HA, HJ4, HB⟩ := hcut
    cases kq with
    | zero => exact absurd HA.out (by simp [letterbaglaw18_FieldValues.j0])
    | succ kj4 =>
      have H := HA.out
      clear HA
      simp only [letterbaglaw18_FieldValues.j0] at H
      by_cases c8 : x35_4 = true
      · subst c8
        have H1 : ((letterbaglaw18_awake.f).bind fun t475 => (some t475)) = some true := by rw [if_pos rfl] at H; exact H
        clear H
        have H := H1
        clear H1
        replace H := Option.bind_eq_some_iff.mp H
        obtain ⟨t475, A90, H⟩ := H
        replace H : (some t475) = some true := H
        have A9 := Aside0.mk A90
        clear A90
        try exact absurd H (by decide)
        all_goals (have HTR := Aside0.mk (Option.some.inj H))
        all_goals (go_wp2_with (first | ((with_reducible refine gate_callee (f := 11) rfl ?_); refine goesL_ (some 36) rfl rfl Tryd.func11 (by kernel_rfl) rfl #[] rfl (by (try simp only [List.map_toArray, List.map_cons, List.map_nil]); first | done | rfl | (simp only [List.length_drop, List.length_take]; rfl)) ?_; (with_reducible refine (letterbaglaw18_awake.calls  t475 _ ?side1 A9.out).mono ?_); (case side1 => repeat (first | exact (Kd.C_below HRT.out HB.out) | (with_reducible refine Kd.C_alloc ?_ _) | (with_reducible refine Kd.C_drewN ?_ _) | (with_reducible refine Kd.C_drew ?_))); rintro e w10 ⟨rfl, hb⟩; refine ⟨_, rfl, ?_⟩; have n0_ := Aside0.mk (below_step (by repeat (first | (with_reducible first | exact HB.out | apply below_alloc | apply pw_below_drewN | apply below_drew1) | exact HB.out)) hb); clear HB; have HB := n0_; clear n0_; (try clear hb); (try clear hb2); (try clear hk); (try clear hi))))
        all_goals (go_ret)
        all_goals (exact ⟨by first | rfl | (rw [HTR.out]; rfl) | (simp [errW_none, errW_some] <;> rfl) | (simp [*, errW_none, errW_some] <;> rfl), by repeat (first | (with_reducible first | exact HB.out | apply below_alloc | apply pw_below_drewN | apply below_drew1) | exact HB.out)⟩)
      · replace c8 := Bool.eq_false_iff.mpr c8
        subst c8
        have H1 : ((letterbagkit_LentBytes.f l0).bind fun t476 => ((letterbagkit_LentBytes.f l2).bind fun t479 => ((letterbagkit_LentBytes.f l3).bind fun t482 => ((field_Eval.f t476 a1).bind fun bt485 => ((field_Roots.f kj4 t476).bind fun bt487 => ((field_Through.f kj4 t479 t482).bind fun bt491 => ((letterbagkit_KeptBytes.f t476 l0).bind fun t495 => (if t495 = true then ((letterbagkit_KeptBytes.f t479 l2).bind fun t496 => (if t496 = true then ((letterbagkit_KeptBytes.f t482 l3).bind fun t497 => (letterbaglaw18_FieldValues.j1 kj4 l0 a1 l2 l3 t479 t482 bt485.1 bt485.2 bt487.1 bt487.2 bt491.1 bt491.2 (!t497))) else (letterbaglaw18_FieldValues.j1 kj4 l0 a1 l2 l3 t479 t482 bt485.1 bt485.2 bt487.1 bt487.2 bt491.1 bt491.2 true))) else (letterbaglaw18_FieldValues.j1 kj4 l0 a1 l2 l3 t479 t482 bt485.1 bt485.2 bt487.1 bt487.2 bt491.1 bt491.2 true))))))))) = some true := by rw [if_neg (show ¬ (false = true) by decide)] at H; exact H
        clear H
        have H := H1
        clear H1
        replace H := Option.bind_eq_some_iff.mp H
        obtain ⟨t476, A110, H⟩ := H
        replace H : ((letterbagkit_LentBytes.f l2).bind fun t479 => ((letterbagkit_LentBytes.f l3).bind fun t482 => ((field_Eval.f t476 a1).bind fun bt485 => ((field_Roots.f kj4 t476).bind fun bt487 => ((field_Through.f kj4 t479 t482).bind fun bt491 => ((letterbagkit_KeptBytes.f t476 l0).bind fun t495 => (if t495 = true then ((letterbagkit_KeptBytes.f t479 l2).bind fun t496 => (if t496 = true then ((letterbagkit_KeptBytes.f t482 l3).bind fun t497 => (letterbaglaw18_FieldValues.j1 kj4 l0 a1 l2 l3 t479 t482 bt485.1 bt485.2 bt487.1 bt487.2 bt491.1 bt491.2 (!t497))) else (letterbaglaw18_FieldValues.j1 kj4 l0 a1 l2 l3 t479 t482 bt485.1 bt485.2 bt487.1 bt487.2 bt491.1 bt491.2 true))) else (letterbaglaw18_FieldValues.j1 kj4 l0 a1 l2 l3 t479 t482 bt485.1 bt485.2 bt487.1 bt487.2 bt491.1 bt491.2 true)))))))) = some true := H
        have A11 := Aside0.mk A110
        clear A110
        replace H := Option.bind_eq_some_iff.mp H
        obtain ⟨t479, A120, H⟩ := H
        replace H : ((letterbagkit_LentBytes.f l3).bind fun t482 => ((field_Eval.f t476 a1).bind fun bt485 => ((field_Roots.f kj4 t476).bind fun bt487 => ((field_Through.f kj4 t479 t482).bind fun bt491 => ((letterbagkit_KeptBytes.f t476 l0).bind fun t495 => (if t495 = true then ((letterbagkit_KeptBytes.f t479 l2).bind fun t496 => (if t496 = true then ((letterbagkit_KeptBytes.f t482 l3).bind fun t497 => (letterbaglaw18_FieldValues.j1 kj4 l0 a1 l2 l3 t479 t482 bt485.1 bt485.2 bt487.1 bt487.2 bt491.1 bt491.2 (!t497))) else (letterbaglaw18_FieldValues.j1 kj4 l0 a1 l2 l3 t479 t482 bt485.1 bt485.2 bt487.1 bt487.2 bt491.1 bt491.2 true))) else (letterbaglaw18_FieldValues.j1 kj4 l0 a1 l2 l3 t479 t482 bt485.1 bt485.2 bt487.1 bt487.2 bt491.1 bt491.2 true))))))) = some true := H
        have A12 := Aside0.mk A120
        clear A120
        replace H := Option.bind_eq_some_iff.mp H
        obtain ⟨t482, A130, H⟩ := H
        replace H : ((field_Eval.f t476 a1).bind fun bt485 => ((field_Roots.f kj4 t476).bind fun bt487 => ((field_Through.f kj4 t479 t482).bind fun bt491 => ((letterbagkit_KeptBytes.f t476 l0).bind fun t495 => (if t495 = true then ((letterbagkit_KeptBytes.f t479 l2).bind fun t496 => (if t496 = true then ((letterbagkit_KeptBytes.f t482 l3).bind fun t497 => (letterbaglaw18_FieldValues.j1 kj4 l0 a1 l2 l3 t479 t482 bt485.1 bt485.2 bt487.1 bt487.2 bt491.1 bt491.2 (!t497))) else (letterbaglaw18_FieldValues.j1 kj4 l0 a1 l2 l3 t479 t482 bt485.1 bt485.2 bt487.1 bt487.2 bt491.1 bt491.2 true))) else (letterbaglaw18_FieldValues.j1 kj4 l0 a1 l2 l3 t479 t482 bt485.1 bt485.2 bt487.1 bt487.2 bt491.1 bt491.2 true)))))) = some true := H
        have A13 := Aside0.mk A130
        clear A130
        replace H := Option.bind_eq_some_iff.mp H
        obtain ⟨⟨t485, t486⟩, A140, H⟩ := H
        replace H : ((field_Roots.f kj4 t476).bind fun bt487 => ((field_Through.f kj4 t479 t482).bind fun bt491 => ((letterbagkit_KeptBytes.f t476 l0).bind fun t495 => (if t495 = true then ((letterbagkit_KeptBytes.f t479 l2).bind fun t496 => (if t496 = true then ((letterbagkit_KeptBytes.f t482 l3).bind fun t497 => (letterbaglaw18_FieldValues.j1 kj4 l0 a1 l2 l3 t479 t482 t485 t486 bt487.1 bt487.2 bt491.1 bt491.2 (!t497))) else (letterbaglaw18_FieldValues.j1 kj4 l0 a1 l2 l3 t479 t482 t485 t486 bt487.1 bt487.2 bt491.1 bt491.2 true))) else (letterbaglaw18_FieldValues.j1 kj4 l0 a1 l2 l3 t479 t482 t485 t486 bt487.1 bt487.2 bt491.1 bt491.2 true))))) = some true := H
        have A14 := Aside0.mk A140
        clear A140
        replace H := Option.bind_eq_some_iff.mp H
        obtain ⟨⟨t487, t490⟩, A150, H⟩ := H
        replace H : ((field_Through.f kj4 t479 t482).bind fun bt491 => ((letterbagkit_KeptBytes.f t476 l0).bind fun t495 => (if t495 = true then ((letterbagkit_KeptBytes.f t479 l2).bind fun t496 => (if t496 = true then ((letterbagkit_KeptBytes.f t482 l3).bind fun t497 => (letterbaglaw18_FieldValues.j1 kj4 l0 a1 l2 l3 t479 t482 t485 t486 t487 t490 bt491.1 bt491.2 (!t497))) else (letterbaglaw18_FieldValues.j1 kj4 l0 a1 l2 l3 t479 t482 t485 t486 t487 t490 bt491.1 bt491.2 true))) else (letterbaglaw18_FieldValues.j1 kj4 l0 a1 l2 l3 t479 t482 t485 t486 t487 t490 bt491.1 bt491.2 true)))) = some true := H
        have A15 := Aside0.mk A150
        clear A150
        replace H := Option.bind_eq_some_iff.mp H
        obtain ⟨⟨t491, t494⟩, A160, H⟩ := H
        replace H : ((letterbagkit_KeptBytes.f t476 l0).bind fun t495 => (if t495 = true then ((letterbagkit_KeptBytes.f t479 l2).bind fun t496 => (if t496 = true then ((letterbagkit_KeptBytes.f t482 l3).bind fun t497 => (letterbaglaw18_FieldValues.j1 kj4 l0 a1 l2 l3 t479 t482 t485 t486 t487 t490 t491 t494 (!t497))) else (letterbaglaw18_FieldValues.j1 kj4 l0 a1 l2 l3 t479 t482 t485 t486 t487 t490 t491 t494 true))) else (letterbaglaw18_FieldValues.j1 kj4 l0 a1 l2 l3 t479 t482 t485 t486 t487 t490 t491 t494 true))) = some true := H
        have A16 := Aside0.mk A160
        clear A160
        have HC17 := Aside0.mk H
        clear H
        go_upto_region 7 with (first | ((with_reducible refine gate_callee (f := 12) rfl ?_); refine goesL_ (some 38) rfl rfl Tryd.func12 (by kernel_rfl) rfl #[.slice A0 l0.length c0] rfl (by (try simp only [List.map_toArray, List.map_cons, List.map_nil]); first | done | rfl | (simp only [List.length_drop, List.length_take]; rfl)) ?_; (with_reducible refine (letterbagkit_LentBytes.calls _ _ l0 t476 _ ?side1 ?side2 A11.out).mono ?_); (case side1 => repeat (first | exact (Kd.C_below HR0.out HB.out) | (with_reducible refine Kd.C_alloc ?_ _) | (with_reducible refine Kd.C_drewN ?_ _) | (with_reducible refine Kd.C_drew ?_))); (case side2 => exact HC0.out); rintro e w18 ⟨v477, rfl, ho0, hl, hb⟩; refine ⟨_, rfl, ?_⟩; have HL_1 := Aside0.mk hl; clear hl; have n0_ := Aside0.mk (Kd.R_lower ho0 (below_size (by repeat (first | (with_reducible first | exact HB.out | apply below_alloc | apply pw_below_drewN | apply below_drew1) | exact HB.out)))); have n1_ := Aside0.mk (below_step (by repeat (first | (with_reducible first | exact HB.out | apply below_alloc | apply pw_below_drewN | apply below_drew1) | exact HB.out)) hb); clear HB; have HO478 := n0_; have HB := n1_; clear n0_ n1_; (try clear hb); (try clear hb2); (try clear hk); (try clear hi); (try clear ho0)) | ((with_reducible refine gate_callee (f := 12) rfl ?_); refine goesL_ (some 40) rfl rfl Tryd.func12 (by kernel_rfl) rfl #[.slice A2 l2.length c2] rfl (by (try simp only [List.map_toArray, List.map_cons, List.map_nil]); first | done | rfl | (simp only [List.length_drop, List.length_take]; rfl)) ?_; (with_reducible refine (letterbagkit_LentBytes.calls _ _ l2 t479 _ ?side1 ?side2 A12.out).mono ?_); (case side1 => repeat (first | exact (Kd.C_below HR2.out HB.out) | (with_reducible refine Kd.C_alloc ?_ _) | (with_reducible refine Kd.C_drewN ?_ _) | (with_reducible refine Kd.C_drew ?_))); (case side2 => exact HC2.out); rintro e w19 ⟨v480, rfl, ho0, hl, hb⟩; refine ⟨_, rfl, ?_⟩; have HL_2 := Aside0.mk hl; clear hl; have HL_1 := Aside0.mk (Lent.below HL_1.out hb); have n0_ := Aside0.mk (Kd.R_elder' (by (with_reducible repeat (first | apply Kd.R_alloc | apply Kd.R_drewN | apply Kd.R_drew)); exact HO478.out) (Kd.R_base ho0) hb); have n1_ := Aside0.mk (Kd.R_lower (Kd.R_new' ho0 (Kd.R_lt (by (with_reducible repeat (first | apply Kd.R_alloc | apply Kd.R_drewN | apply Kd.R_drew)); exact HO478.out))) (below_size (by repeat (first | (with_reducible first | exact HB.out | apply below_alloc | apply pw_below_drewN | apply below_drew1) | exact HB.out)))); have n2_ := Aside0.mk (below_step (by repeat (first | (with_reducible first | exact HB.out | apply below_alloc | apply pw_below_drewN | apply below_drew1) | exact HB.out)) hb); clear HO478; clear HB; have HO478 := n0_; have HO481 := n1_; have HB := n2_; clear n0_ n1_ n2_; (try clear hb); (try clear hb2); (try clear hk); (try clear hi); (try clear ho0)) | ((with_reducible refine gate_callee (f := 12) rfl ?_); refine goesL_ (some 42) rfl rfl Tryd.func12 (by kernel_rfl) rfl #[.slice A3 l3.length c3] rfl (by (try simp only [List.map_toArray, List.map_cons, List.map_nil]); first | done | rfl | (simp only [List.length_drop, List.length_take]; rfl)) ?_; (with_reducible refine (letterbagkit_LentBytes.calls _ _ l3 t482 _ ?side1 ?side2 A13.out).mono ?_); (case side1 => repeat (first | exact (Kd.C_below HR3.out HB.out) | (with_reducible refine Kd.C_alloc ?_ _) | (with_reducible refine Kd.C_drewN ?_ _) | (with_reducible refine Kd.C_drew ?_))); (case side2 => exact HC3.out); rintro e w20 ⟨v483, rfl, ho0, hl, hb⟩; refine ⟨_, rfl, ?_⟩; have HL_3 := Aside0.mk hl; clear hl; have HL_1 := Aside0.mk (Lent.below HL_1.out hb); have HL_2 := Aside0.mk (Lent.below HL_2.out hb); have n0_ := Aside0.mk (Kd.R_elder' (by (with_reducible repeat (first | apply Kd.R_alloc | apply Kd.R_drewN | apply Kd.R_drew)); exact HO478.out) (Kd.R_base ho0) hb); have n1_ := Aside0.mk (Kd.R_elder' (by (with_reducible repeat (first | apply Kd.R_alloc | apply Kd.R_drewN | apply Kd.R_drew)); exact HO481.out) (Kd.R_base ho0) hb); have n2_ := Aside0.mk (Kd.R_lower (Kd.R_new' (Kd.R_new' ho0 (Kd.R_lt (by (with_reducible repeat (first | apply Kd.R_alloc | apply Kd.R_drewN | apply Kd.R_drew)); exact HO478.out))) (Kd.R_lt (by (with_reducible repeat (first | apply Kd.R_alloc | apply Kd.R_drewN | apply Kd.R_drew)); exact HO481.out))) (below_size (by repeat (first | (with_reducible first | exact HB.out | apply below_alloc | apply pw_below_drewN | apply below_drew1) | exact HB.out)))); have n3_ := Aside0.mk (below_step (by repeat (first | (with_reducible first | exact HB.out | apply below_alloc | apply pw_below_drewN | apply below_drew1) | exact HB.out)) hb); clear HO478; clear HO481; clear HB; have HO478 := n0_; have HO481 := n1_; have HO484 := n2_; have HB := n3_; clear n0_ n1_ n2_ n3_; (try clear hb); (try clear hb2); (try clear hk); (try clear hi); (try clear ho0); obtain ⟨Ao21, co21, eo21⟩ := Kd.R_slice HO478.out; subst eo21) | ((with_reducible refine gate_callee (f := 38) rfl ?_); refine goesL_ (some 46) rfl rfl Tryd.func38 (by kernel_rfl) rfl #[.slice Ao21 t476.length co21, .int .u8 a1] rfl (by (try simp only [List.map_toArray, List.map_cons, List.map_nil]); first | done | rfl | (simp only [List.length_drop, List.length_take]; rfl)) ?_; (with_reducible refine (field_Eval.calls (fun k_ => some k_ = (.slice Ao21 t476.length co21 : Value).ownBlock) _ _ t476 a1 t485 t486 _ ?side1 ?side2 A14.out).mono ?_); (case side1 => exact Kd.R_V (Kd.R_tight rfl (HO478.out))); (case side2 => repeat (first | exact (Kd.C_below HRT.out HB.out) | (with_reducible refine Kd.C_alloc ?_ _) | (with_reducible refine Kd.C_drewN ?_ _) | (with_reducible refine Kd.C_drew ?_))); rintro e w22 ⟨rfl, hb⟩; refine ⟨_, rfl, ?_⟩; have HL_1 := Aside0.mk (Lent.below HL_1.out hb); have HL_2 := Aside0.mk (Lent.below HL_2.out hb); have HL_3 := Aside0.mk (Lent.below HL_3.out hb); have n0_ := Aside0.mk (Kd.R_below (by (with_reducible repeat (first | apply Kd.R_alloc | apply Kd.R_drewN | apply Kd.R_drew)); exact HO478.out) hb); have n1_ := Aside0.mk (Kd.R_below (by (with_reducible repeat (first | apply Kd.R_alloc | apply Kd.R_drewN | apply Kd.R_drew)); exact HO481.out) hb); have n2_ := Aside0.mk (Kd.R_below (by (with_reducible repeat (first | apply Kd.R_alloc | apply Kd.R_drewN | apply Kd.R_drew)); exact HO484.out) hb); have n3_ := Aside0.mk (below_step (by repeat (first | (with_reducible first | exact HB.out | apply below_alloc | apply pw_below_drewN | apply below_drew1) | exact HB.out)) hb); clear HO478; clear HO481; clear HO484; clear HB; have HO478 := n0_; have HO481 := n1_; have HO484 := n2_; have HB := n3_; clear n0_ n1_ n2_ n3_; (try clear hb); (try clear hb2); (try clear hk); (try clear hi)) | ((with_reducible refine gate_callee (f := 39) rfl ?_); refine goesL_ (some 51) rfl rfl Tryd.func39 (by kernel_rfl) rfl #[.slice Ao21 t476.length co21] rfl (by (try simp only [List.map_toArray, List.map_cons, List.map_nil]); first | done | rfl | (simp only [List.length_drop, List.length_take]; rfl)) ?_; (with_reducible refine (field_Roots.calls kj4 (fun k_ => some k_ = (.slice Ao21 t476.length co21 : Value).ownBlock) _ _ t476 t487 t490 _ ?side1 ?side2 A15.out).mono ?_); (case side1 => exact Kd.R_V (Kd.R_tight rfl (HO478.out))); (case side2 => repeat (first | exact (Kd.C_below HRT.out HB.out) | (with_reducible refine Kd.C_alloc ?_ _) | (with_reducible refine Kd.C_drewN ?_ _) | (with_reducible refine Kd.C_drew ?_))); rintro e w23 ⟨v488, rfl, ho0, hb⟩; refine ⟨_, rfl, ?_⟩; have HL_1 := Aside0.mk (Lent.below HL_1.out hb); have HL_2 := Aside0.mk (Lent.below HL_2.out hb); have HL_3 := Aside0.mk (Lent.below HL_3.out hb); have n0_ := Aside0.mk (Kd.R_elder' (by (with_reducible repeat (first | apply Kd.R_alloc | apply Kd.R_drewN | apply Kd.R_drew)); exact HO478.out) (Kd.R_base ho0) hb); have n1_ := Aside0.mk (Kd.R_elder' (by (with_reducible repeat (first | apply Kd.R_alloc | apply Kd.R_drewN | apply Kd.R_drew)); exact HO481.out) (Kd.R_base ho0) hb); have n2_ := Aside0.mk (Kd.R_elder' (by (with_reducible repeat (first | apply Kd.R_alloc | apply Kd.R_drewN | apply Kd.R_drew)); exact HO484.out) (Kd.R_base ho0) hb); have n3_ := Aside0.mk (Kd.R_lower (Kd.R_new' (Kd.R_new' (Kd.R_new' (Kd.R_mono (ok' := fun k_ => True) ho0 (fun _ hk_ => trivial)) (Kd.R_lt (by (with_reducible repeat (first | apply Kd.R_alloc | apply Kd.R_drewN | apply Kd.R_drew)); exact HO478.out))) (Kd.R_lt (by (with_reducible repeat (first | apply Kd.R_alloc | apply Kd.R_drewN | apply Kd.R_drew)); exact HO481.out))) (Kd.R_lt (by (with_reducible repeat (first | apply Kd.R_alloc | apply Kd.R_drewN | apply Kd.R_drew)); exact HO484.out))) (below_size (by repeat (first | (with_reducible first | exact HB.out | apply below_alloc | apply pw_below_drewN | apply below_drew1) | exact HB.out)))); have n4_ := Aside0.mk (below_step (by repeat (first | (with_reducible first | exact HB.out | apply below_alloc | apply pw_below_drewN | apply below_drew1) | exact HB.out)) hb); clear HO478; clear HO481; clear HO484; clear HB; have HO478 := n0_; have HO481 := n1_; have HO484 := n2_; have HO489 := n3_; have HB := n4_; clear n0_ n1_ n2_ n3_ n4_; (try clear hb); (try clear hb2); (try clear hk); (try clear hi); (try clear ho0); obtain ⟨Ao24, co24, eo24⟩ := Kd.R_slice HO481.out; subst eo24; obtain ⟨Ao25, co25, eo25⟩ := Kd.R_slice HO484.out; subst eo25) | ((with_reducible refine gate_callee (f := 40) rfl ?_); refine goesL_ (some 57) rfl rfl Tryd.func40 (by kernel_rfl) rfl #[.slice Ao24 t479.length co24, .slice Ao25 t482.length co25] rfl (by (try simp only [List.map_toArray, List.map_cons, List.map_nil]); first | done | rfl | (simp only [List.length_drop, List.length_take]; rfl)) ?_; (with_reducible refine (field_Through.calls kj4 (fun k_ => some k_ = (.slice Ao24 t479.length co24 : Value).ownBlock) _ _ t479 (fun k_ => some k_ = (.slice Ao25 t482.length co25 : Value).ownBlock) _ _ t482 t491 t494 _ ?side1 ?side2 ?side3 A16.out).mono ?_); (case side1 => exact Kd.R_V (Kd.R_tight rfl (HO481.out))); (case side2 => exact Kd.R_V (Kd.R_tight rfl (HO484.out))); (case side3 => repeat (first | exact (Kd.C_below HRT.out HB.out) | (with_reducible refine Kd.C_alloc ?_ _) | (with_reducible refine Kd.C_drewN ?_ _) | (with_reducible refine Kd.C_drew ?_))); rintro e w26 ⟨v492, rfl, ho0, hb⟩; refine ⟨_, rfl, ?_⟩; have HL_1 := Aside0.mk (Lent.below HL_1.out hb); have HL_2 := Aside0.mk (Lent.below HL_2.out hb); have HL_3 := Aside0.mk (Lent.below HL_3.out hb); have n0_ := Aside0.mk (Kd.R_elder' (by (with_reducible repeat (first | apply Kd.R_alloc | apply Kd.R_drewN | apply Kd.R_drew)); exact HO478.out) (Kd.R_base ho0) hb); have n1_ := Aside0.mk (Kd.R_elder' (by (with_reducible repeat (first | apply Kd.R_alloc | apply Kd.R_drewN | apply Kd.R_drew)); exact HO481.out) (Kd.R_base ho0) hb); have n2_ := Aside0.mk (Kd.R_elder' (by (with_reducible repeat (first | apply Kd.R_alloc | apply Kd.R_drewN | apply Kd.R_drew)); exact HO484.out) (Kd.R_base ho0) hb); have n3_ := Aside0.mk (Kd.R_elder' (by (with_reducible repeat (first | apply Kd.R_alloc | apply Kd.R_drewN | apply Kd.R_drew)); exact HO489.out) (Kd.R_base ho0) hb); have n4_ := Aside0.mk (Kd.R_lower (Kd.R_new' (Kd.R_new' (Kd.R_new' (Kd.R_new' (Kd.R_mono (ok' := fun k_ => True) ho0 (fun _ hk_ => trivial)) (Kd.R_lt (by (with_reducible repeat (first | apply Kd.R_alloc | apply Kd.R_drewN | apply Kd.R_drew)); exact HO478.out))) (Kd.R_lt (by (with_reducible repeat (first | apply Kd.R_alloc | apply Kd.R_drewN | apply Kd.R_drew)); exact HO481.out))) (Kd.R_lt (by (with_reducible repeat (first | apply Kd.R_alloc | apply Kd.R_drewN | apply Kd.R_drew)); exact HO484.out))) (Kd.R_lt (by (with_reducible repeat (first | apply Kd.R_alloc | apply Kd.R_drewN | apply Kd.R_drew)); exact HO489.out))) (below_size (by repeat (first | (with_reducible first | exact HB.out | apply below_alloc | apply pw_below_drewN | apply below_drew1) | exact HB.out)))); have n5_ := Aside0.mk (below_step (by repeat (first | (with_reducible first | exact HB.out | apply below_alloc | apply pw_below_drewN | apply below_drew1) | exact HB.out)) hb); clear HO478; clear HO481; clear HO484; clear HO489; clear HB; have HO478 := n0_; have HO481 := n1_; have HO484 := n2_; have HO489 := n3_; have HO493 := n4_; have HB := n5_; clear n0_ n1_ n2_ n3_ n4_ n5_; (try clear hb); (try clear hb2); (try clear hk); (try clear hi); (try clear ho0)))
        (try simp only [Act.put, List.setIfInBounds_toArray, List.set_cons_zero, List.set_cons_succ])
        have HC_1 := Aside0.mk (lent_cap HL_1.out)
        have HC_2 := Aside0.mk (lent_cap HL_2.out)
        have HC_3 := Aside0.mk (lent_cap HL_3.out)
        go_cut [75] (fun v75 wc => ∃ (kq : Nat) (x75_16 : Bool), v75 = .bool x75_16 ∧ Aside0 (letterbaglaw18_FieldValues.j1 kq l0 a1 l2 l3 t479 t482 t485 t486 t487 t490 t491 t494 x75_16 = some true) ∧ Aside0 (kq ≤ kj4) ∧ Aside0 (Kd.R (Kd.int .u8) 5 wc w.heap.size (fun k_ => some k_ ≠ ((.slice Ao25 t482.length co25) : Value).ownBlock ∧ some k_ ≠ (v488 : Value).ownBlock ∧ some k_ ≠ (v492 : Value).ownBlock) (.slice Ao24 t479.length co24) t479) ∧ Aside0 (Kd.R (Kd.int .u8) 5 wc w.heap.size (fun k_ => some k_ ≠ ((.slice Ao24 t479.length co24) : Value).ownBlock ∧ some k_ ≠ (v488 : Value).ownBlock ∧ some k_ ≠ (v492 : Value).ownBlock) (.slice Ao25 t482.length co25) t482) ∧ Aside0 (Kd.R (Kd.int .u8) 5 wc w.heap.size (fun k_ => some k_ ≠ ((.slice Ao24 t479.length co24) : Value).ownBlock ∧ some k_ ≠ ((.slice Ao25 t482.length co25) : Value).ownBlock ∧ some k_ ≠ (v492 : Value).ownBlock) v488 t487) ∧ Aside0 (Kd.R (Kd.int .u8) 5 wc w.heap.size (fun k_ => some k_ ≠ ((.slice Ao24 t479.length co24) : Value).ownBlock ∧ some k_ ≠ ((.slice Ao25 t482.length co25) : Value).ownBlock ∧ some k_ ≠ (v488 : Value).ownBlock) v492 t491) ∧ Aside0 (Below w.heap.size w wc))
        case first =>
          have H := HC17.out
          clear HC17
          replace H := Option.bind_eq_some_iff.mp H
          obtain ⟨t495, A270, H⟩ := H
          replace H : (if t495 = true then ((letterbagkit_KeptBytes.f t479 l2).bind fun t496 => (if t496 = true then ((letterbagkit_KeptBytes.f t482 l3).bind fun t497 => (letterbaglaw18_FieldValues.j1 kj4 l0 a1 l2 l3 t479 t482 t485 t486 t487 t490 t491 t494 (!t497))) else (letterbaglaw18_FieldValues.j1 kj4 l0 a1 l2 l3 t479 t482 t485 t486 t487 t490 t491 t494 true))) else (letterbaglaw18_FieldValues.j1 kj4 l0 a1 l2 l3 t479 t482 t485 t486 t487 t490 t491 t494 true)) = some true := H
          have A27 := Aside0.mk A270
          clear A270
          by_cases c28 : t495 = true
          · subst c28
            have H1 : ((letterbagkit_KeptBytes.f t479 l2).bind fun t496 => (if t496 = true then ((letterbagkit_KeptBytes.f t482 l3).bind fun t497 => (letterbaglaw18_FieldValues.j1 kj4 l0 a1 l2 l3 t479 t482 t485 t486 t487 t490 t491 t494 (!t497))) else (letterbaglaw18_FieldValues.j1 kj4 l0 a1 l2 l3 t479 t482 t485 t486 t487 t490 t491 t494 true))) = some true := by rw [if_pos rfl] at H; exact H
            clear H
            have H := H1
            clear H1
            replace H := Option.bind_eq_some_iff.mp H
            obtain ⟨t496, A290, H⟩ := H
            replace H : (if t496 = true then ((letterbagkit_KeptBytes.f t482 l3).bind fun t497 => (letterbaglaw18_FieldValues.j1 kj4 l0 a1 l2 l3 t479 t482 t485 t486 t487 t490 t491 t494 (!t497))) else (letterbaglaw18_FieldValues.j1 kj4 l0 a1 l2 l3 t479 t482 t485 t486 t487 t490 t491 t494 true)) = some true := H
            have A29 := Aside0.mk A290
            clear A290
            by_cases c30 : t496 = true
            · subst c30
              have H1 : ((letterbagkit_KeptBytes.f t482 l3).bind fun t497 => (letterbaglaw18_FieldValues.j1 kj4 l0 a1 l2 l3 t479 t482 t485 t486 t487 t490 t491 t494 (!t497))) = some true := by rw [if_pos rfl] at H; exact H
              clear H
              have H := H1
              clear H1
              replace H := Option.bind_eq_some_iff.mp H
              obtain ⟨t497, A310, H⟩ := H
              replace H : (letterbaglaw18_FieldValues.j1 kj4 l0 a1 l2 l3 t479 t482 t485 t486 t487 t490 t491 t494 (!t497)) = some true := H
              have A31 := Aside0.mk A310
              clear A310
              have H' := Aside0.mk H
              clear H
              go_wp2_with (first | ((with_reducible refine gate_callee (f := 18) rfl ?_); refine goesL_ (some 62) rfl rfl Tryd.func18 (by kernel_rfl) rfl #[.slice Ao21 t476.length co21, .slice A0 l0.length c0] rfl (by (try simp only [List.map_toArray, List.map_cons, List.map_nil]); first | done | rfl | (simp only [List.length_drop, List.length_take]; rfl)) ?_; (with_reducible refine (letterbagkit_KeptBytes.calls _ _ t476 _ _ l0 true _ ?side1 ?side3 ?side4 A27.out).mono ?_); (case side1 => exact HL_1.out); (case side3 => repeat (first | exact (Kd.C_below HR0.out HB.out) | (with_reducible refine Kd.C_alloc ?_ _) | (with_reducible refine Kd.C_drewN ?_ _) | (with_reducible refine Kd.C_drew ?_))); (case side4 => exact HC0.out); rintro e w32 ⟨rfl, hb⟩; refine ⟨_, rfl, ?_⟩; have HL_1 := Aside0.mk (Lent.below HL_1.out hb); have HL_2 := Aside0.mk (Lent.below HL_2.out hb); have HL_3 := Aside0.mk (Lent.below HL_3.out hb); have n0_ := Aside0.mk (Kd.R_below (by (with_reducible repeat (first | apply Kd.R_alloc | apply Kd.R_drewN | apply Kd.R_drew)); exact HO478.out) hb); have n1_ := Aside0.mk (Kd.R_below (by (with_reducible repeat (first | apply Kd.R_alloc | apply Kd.R_drewN | apply Kd.R_drew)); exact HO481.out) hb); have n2_ := Aside0.mk (Kd.R_below (by (with_reducible repeat (first | apply Kd.R_alloc | apply Kd.R_drewN | apply Kd.R_drew)); exact HO484.out) hb); have n3_ := Aside0.mk (Kd.R_below (by (with_reducible repeat (first | apply Kd.R_alloc | apply Kd.R_drewN | apply Kd.R_drew)); exact HO489.out) hb); have n4_ := Aside0.mk (Kd.R_below (by (with_reducible repeat (first | apply Kd.R_alloc | apply Kd.R_drewN | apply Kd.R_drew)); exact HO493.out) hb); have n5_ := Aside0.mk (below_step (by repeat (first | (with_reducible first | exact HB.out | apply below_alloc | apply pw_below_drewN | apply below_drew1) | exact HB.out)) hb); clear HO478; clear HO481; clear HO484; clear HO489; clear HO493; clear HB; have HO478 := n0_; have HO481 := n1_; have HO484 := n2_; have HO489 := n3_; have HO493 := n4_; have HB := n5_; clear n0_ n1_ n2_ n3_ n4_ n5_; (try clear hb); (try clear hb2); (try clear hk); (try clear hi)) | (go_at_call 18; (with_reducible refine (letterbagkit_KeptBytes.calls _ _ t479 _ _ l2 true _ ?side1 ?side3 ?side4 A29.out).mono ?_); (case side1 => exact HL_2.out); (case side3 => repeat (first | exact (Kd.C_below HR2.out HB.out) | (with_reducible refine Kd.C_alloc ?_ _) | (with_reducible refine Kd.C_drewN ?_ _) | (with_reducible refine Kd.C_drew ?_))); (case side4 => exact HC2.out); rintro e w33 ⟨rfl, hb⟩; have HL_1 := Aside0.mk (Lent.below HL_1.out hb); have HL_2 := Aside0.mk (Lent.below HL_2.out hb); have HL_3 := Aside0.mk (Lent.below HL_3.out hb); have n0_ := Aside0.mk (Kd.R_below (by (with_reducible repeat (first | apply Kd.R_alloc | apply Kd.R_drewN | apply Kd.R_drew)); exact HO478.out) hb); have n1_ := Aside0.mk (Kd.R_below (by (with_reducible repeat (first | apply Kd.R_alloc | apply Kd.R_drewN | apply Kd.R_drew)); exact HO481.out) hb); have n2_ := Aside0.mk (Kd.R_below (by (with_reducible repeat (first | apply Kd.R_alloc | apply Kd.R_drewN | apply Kd.R_drew)); exact HO484.out) hb); have n3_ := Aside0.mk (Kd.R_below (by (with_reducible repeat (first | apply Kd.R_alloc | apply Kd.R_drewN | apply Kd.R_drew)); exact HO489.out) hb); have n4_ := Aside0.mk (Kd.R_below (by (with_reducible repeat (first | apply Kd.R_alloc | apply Kd.R_drewN | apply Kd.R_drew)); exact HO493.out) hb); have n5_ := Aside0.mk (below_step (by repeat (first | (with_reducible first | exact HB.out | apply below_alloc | apply pw_below_drewN | apply below_drew1) | exact HB.out)) hb); clear HO478; clear HO481; clear HO484; clear HO489; clear HO493; clear HB; have HO478 := n0_; have HO481 := n1_; have HO484 := n2_; have HO489 := n3_; have HO493 := n4_; have HB := n5_; clear n0_ n1_ n2_ n3_ n4_ n5_; (try clear hb); (try clear hb2); (try clear hk); (try clear hi)) | (go_at_call 18; (with_reducible refine (letterbagkit_KeptBytes.calls _ _ t482 _ _ l3 t497 _ ?side1 ?side3 ?side4 A31.out).mono ?_); (case side1 => exact HL_3.out); (case side3 => repeat (first | exact (Kd.C_below HR3.out HB.out) | (with_reducible refine Kd.C_alloc ?_ _) | (with_reducible refine Kd.C_drewN ?_ _) | (with_reducible refine Kd.C_drew ?_))); (case side4 => exact HC3.out); rintro e w34 ⟨rfl, hb⟩; have HL_1 := Aside0.mk (Lent.below HL_1.out hb); have HL_2 := Aside0.mk (Lent.below HL_2.out hb); have HL_3 := Aside0.mk (Lent.below HL_3.out hb); have n0_ := Aside0.mk (Kd.R_below (by (with_reducible repeat (first | apply Kd.R_alloc | apply Kd.R_drewN | apply Kd.R_drew)); exact HO478.out) hb); have n1_ := Aside0.mk (Kd.R_below (by (with_reducible repeat (first | apply Kd.R_alloc | apply Kd.R_drewN | apply Kd.R_drew)); exact HO481.out) hb); have n2_ := Aside0.mk (Kd.R_below (by (with_reducible repeat (first | apply Kd.R_alloc | apply Kd.R_drewN | apply Kd.R_drew)); exact HO484.out) hb); have n3_ := Aside0.mk (Kd.R_below (by (with_reducible repeat (first | apply Kd.R_alloc | apply Kd.R_drewN | apply Kd.R_drew)); exact HO489.out) hb); have n4_ := Aside0.mk (Kd.R_below (by (with_reducible repeat (first | apply Kd.R_alloc | apply Kd.R_drewN | apply Kd.R_drew)); exact HO493.out) hb); have n5_ := Aside0.mk (below_step (by repeat (first | (with_reducible first | exact HB.out | apply below_alloc | apply pw_below_drewN | apply below_drew1) | exact HB.out)) hb); clear HO478; clear HO481; clear HO484; clear HO489; clear HO493; clear HB; have HO478 := n0_; have HO481 := n1_; have HO484 := n2_; have HO489 := n3_; have HO493 := n4_; have HB := n5_; clear n0_ n1_ n2_ n3_ n4_ n5_; (try clear hb); (try clear hb2); (try clear hk); (try clear hi)))
              go_meet
              case rel => exact ⟨_, (!t497), (by first | rfl | (simp; done) | (simp [*]; done)), H', ⟨by have := HJ4.out; first | omega | exact Nat.le_refl _⟩, ⟨by (with_reducible repeat (first | apply Kd.R_alloc | apply Kd.R_drewN | apply Kd.R_drew)); exact Kd.R_mono HO481.out (fun _ hk => ⟨hk.1.1.2, ⟨hk.1.2, hk.2⟩⟩)⟩, ⟨by (with_reducible repeat (first | apply Kd.R_alloc | apply Kd.R_drewN | apply Kd.R_drew)); exact Kd.R_mono HO484.out (fun _ hk => ⟨hk.1.1.2, ⟨hk.1.2, hk.2⟩⟩)⟩, ⟨by (with_reducible repeat (first | apply Kd.R_alloc | apply Kd.R_drewN | apply Kd.R_drew)); exact Kd.R_mono HO489.out (fun _ hk => ⟨hk.1.1.2, ⟨hk.1.2, hk.2⟩⟩)⟩, ⟨by (with_reducible repeat (first | apply Kd.R_alloc | apply Kd.R_drewN | apply Kd.R_drew)); exact Kd.R_mono HO493.out (fun _ hk => ⟨hk.1.1.2, ⟨hk.1.2, hk.2⟩⟩)⟩, ⟨by repeat (first | (with_reducible first | exact HB.out | apply below_alloc | apply pw_below_drewN | apply below_drew1) | exact HB.out)⟩⟩
            · replace c30 := Bool.eq_false_iff.mpr c30
              subst c30
              have H1 : (letterbaglaw18_FieldValues.j1 kj4 l0 a1 l2 l3 t479 t482 t485 t486 t487 t490 t491 t494 true) = some true := by rw [if_neg (show ¬ (false = true) by decide)] at H; exact H
              clear H
              have H := H1
              clear H1
              exact (no_j1 _ _ _ _ _ _ _ _ _ _ _ _ _ H).elim
          · replace c28 := Bool.eq_false_iff.mpr c28
            subst c28
            have H1 : (letterbaglaw18_FieldValues.j1 kj4 l0 a1 l2 l3 t479 t482 t485 t486 t487 t490 t491 t494 true) = some true := by rw [if_neg (show ¬ (false = true) by decide)] at H; exact H
            clear H
            have H := H1
            clear H1
            exact (no_j1 _ _ _ _ _ _ _ _ _ _ _ _ _ H).elim
        case rest =>
          clear HC17
          try clear c1
          try clear c2
          try clear p2
          try clear c3
          try clear c4
          try clear c6
          try clear c6b0
          try clear c6b1
          try clear c7
          try clear c7b0
          try clear c7b1
          try clear c8
          try clear c11
          try clear c12
          try clear c18
          try clear c28
          try clear c30
          try clear p2
          obtain ⟨kq, x75_16, rfl, HA, HJ16, HO_10, HO_11, HO_14, HO_16, HB⟩ := hcut
          cases kq with
          | zero => exact absurd HA.out (by simp [letterbaglaw18_FieldValues.j1])
          | succ kj16 =>
            have H := HA.out
            clear HA
            simp only [letterbaglaw18_FieldValues.j1] at H
            by_cases c38 : x75_16 = true
            · subst c38
              have H1 : (some false) = some true := by rw [if_pos rfl] at H; exact H
              exact absurd H1 (by decide)
            · replace c38 := Bool.eq_false_iff.mpr c38
              subst c38
              have H1 : ((letterbagkit_OverBytes.f t479).bind fun _ => ((letterbagkit_OverBytes.f t482).bind fun _ => ((letterbagref18_Error.f kj16 l0 (([a1] : List Int))).bind fun t501 => (if t486 = t501 then (if t501 = 0 then ((letterbagref18_Eval.f kj16 l0 a1).bind fun t502 => (letterbaglaw18_FieldValues.j2 kj16 l0 l2 l3 t487 t490 t491 t494 (t485 != t502))) else (if t485 = 0 then (letterbaglaw18_FieldValues.j2 kj16 l0 l2 l3 t487 t490 t491 t494 false) else (letterbaglaw18_FieldValues.j2 kj16 l0 l2 l3 t487 t490 t491 t494 true))) else (letterbaglaw18_FieldValues.j2 kj16 l0 l2 l3 t487 t490 t491 t494 true))))) = some true := by rw [if_neg (show ¬ (false = true) by decide)] at H; exact H
              clear H
              have H := H1
              clear H1
              replace H := Option.bind_eq_some_iff.mp H
              obtain ⟨_, A390, H⟩ := H
              replace H : ((letterbagkit_OverBytes.f t482).bind fun _ => ((letterbagref18_Error.f kj16 l0 (([a1] : List Int))).bind fun t501 => (if t486 = t501 then (if t501 = 0 then ((letterbagref18_Eval.f kj16 l0 a1).bind fun t502 => (letterbaglaw18_FieldValues.j2 kj16 l0 l2 l3 t487 t490 t491 t494 (t485 != t502))) else (if t485 = 0 then (letterbaglaw18_FieldValues.j2 kj16 l0 l2 l3 t487 t490 t491 t494 false) else (letterbaglaw18_FieldValues.j2 kj16 l0 l2 l3 t487 t490 t491 t494 true))) else (letterbaglaw18_FieldValues.j2 kj16 l0 l2 l3 t487 t490 t491 t494 true)))) = some true := H
              have A39 := Aside0.mk A390
              clear A390
              replace H := Option.bind_eq_some_iff.mp H
              obtain ⟨_, A400, H⟩ := H
              replace H : ((letterbagref18_Error.f kj16 l0 (([a1] : List Int))).bind fun t501 => (if t486 = t501 then (if t501 = 0 then ((letterbagref18_Eval.f kj16 l0 a1).bind fun t502 => (letterbaglaw18_FieldValues.j2 kj16 l0 l2 l3 t487 t490 t491 t494 (t485 != t502))) else (if t485 = 0 then (letterbaglaw18_FieldValues.j2 kj16 l0 l2 l3 t487 t490 t491 t494 false) else (letterbaglaw18_FieldValues.j2 kj16 l0 l2 l3 t487 t490 t491 t494 true))) else (letterbaglaw18_FieldValues.j2 kj16 l0 l2 l3 t487 t490 t491 t494 true))) = some true := H
              have A40 := Aside0.mk A400
              clear A400
              obtain ⟨y498, hy498⟩ : ∃ y_ : List Int, y_ = (([a1] : List Int)) := ⟨_, rfl⟩
              replace H : ((letterbagref18_Error.f kj16 l0 y498).bind fun t501 => (if t486 = t501 then (if t501 = 0 then ((letterbagref18_Eval.f kj16 l0 a1).bind fun t502 => (letterbaglaw18_FieldValues.j2 kj16 l0 l2 l3 t487 t490 t491 t494 (t485 != t502))) else (if t485 = 0 then (letterbaglaw18_FieldValues.j2 kj16 l0 l2 l3 t487 t490 t491 t494 false) else (letterbaglaw18_FieldValues.j2 kj16 l0 l2 l3 t487 t490 t491 t494 true))) else (letterbaglaw18_FieldValues.j2 kj16 l0 l2 l3 t487 t490 t491 t494 true))) = some true := by first | (rw [hy498]; with_reducible exact H) | (have H2_ := (Option.bind_some _ _).symm.trans H; rw [hy498]; with_reducible exact H2_) | (have H2_ := (Option.bind_some _ _).symm.trans H; with_reducible exact H2_) | with_reducible exact H | (rw [hy498]; exact H) | exact H
              have Ny498 := Aside0.mk hy498
              clear hy498
              replace H := Option.bind_eq_some_iff.mp H
              obtain ⟨t501, A410, H⟩ := H
              replace H : (if t486 = t501 then (if t501 = 0 then ((letterbagref18_Eval.f kj16 l0 a1).bind fun t502 => (letterbaglaw18_FieldValues.j2 kj16 l0 l2 l3 t487 t490 t491 t494 (t485 != t502))) else (if t485 = 0 then (letterbaglaw18_FieldValues.j2 kj16 l0 l2 l3 t487 t490 t491 t494 false) else (letterbaglaw18_FieldValues.j2 kj16 l0 l2 l3 t487 t490 t491 t494 true))) else (letterbaglaw18_FieldValues.j2 kj16 l0 l2 l3 t487 t490 t491 t494 true)) = some true := H
              have A41 := Aside0.mk A410
              clear A410
              have HC42 := Aside0.mk H
              clear H
              go_upto_region 12 with (first | ((with_reducible refine gate_callee (f := 19) rfl ?_); refine goesL_ (some 77) rfl rfl Tryd.func19 (by kernel_rfl) rfl #[.slice Ao24 t479.length co24] rfl (by (try simp only [List.map_toArray, List.map_cons, List.map_nil]); first | done | rfl | (simp only [List.length_drop, List.length_take]; rfl)) ?_; (with_reducible refine (letterbagkit_OverBytes.calls _ _ _ _ t479 _ HO_10.out HC_2.out A39.out).mono ?_); rintro e w43 ⟨rfl, hg⟩; refine ⟨_, rfl, ?_⟩; have n0_ := Aside0.mk (fun k hk => Nat.lt_of_lt_of_le (Kd.R_lt HO_10.out k hk) hg.size); have n1_ := Aside0.mk (Kd.R_grown HO_11.out hg (fun _ hk => by first | exact hk.1 | exact hk.2.1 | exact hk.2.2.1 | exact hk.2.2.2.1)); have n2_ := Aside0.mk (Kd.R_grown HO_14.out hg (fun _ hk => by first | exact hk.1 | exact hk.2.1 | exact hk.2.2.1 | exact hk.2.2.2.1)); have n3_ := Aside0.mk (Kd.R_grown HO_16.out hg (fun _ hk => by first | exact hk.1 | exact hk.2.1 | exact hk.2.2.1 | exact hk.2.2.2.1)); have n4_ := Aside0.mk (over_below HB.out hg (Kd.R_base HO_10.out)); clear HO_10; clear HO_11; clear HO_14; clear HO_16; clear HB; have HO_10 := n0_; have HO_11 := n1_; have HO_14 := n2_; have HO_16 := n3_; have HB := n4_; clear n0_ n1_ n2_ n3_ n4_; (try clear hg); (try clear hb2); (try clear hk); (try clear hi)) | ((with_reducible refine gate_callee (f := 19) rfl ?_); refine goesL_ (some 79) rfl rfl Tryd.func19 (by kernel_rfl) rfl #[.slice Ao25 t482.length co25] rfl (by (try simp only [List.map_toArray, List.map_cons, List.map_nil]); first | done | rfl | (simp only [List.length_drop, List.length_take]; rfl)) ?_; (with_reducible refine (letterbagkit_OverBytes.calls _ _ _ _ t482 _ HO_11.out HC_3.out A40.out).mono ?_); rintro e w44 ⟨rfl, hg⟩; refine ⟨_, rfl, ?_⟩; have n0_ := Aside0.mk (fun k hk => Nat.lt_of_lt_of_le (HO_10.out k hk) hg.size); have n1_ := Aside0.mk (fun k hk => Nat.lt_of_lt_of_le (Kd.R_lt HO_11.out k hk) hg.size); have n2_ := Aside0.mk (Kd.R_grown HO_14.out hg (fun _ hk => by first | exact hk.1 | exact hk.2.1 | exact hk.2.2.1 | exact hk.2.2.2.1)); have n3_ := Aside0.mk (Kd.R_grown HO_16.out hg (fun _ hk => by first | exact hk.1 | exact hk.2.1 | exact hk.2.2.1 | exact hk.2.2.2.1)); have n4_ := Aside0.mk (over_below HB.out hg (Kd.R_base HO_11.out)); clear HO_10; clear HO_11; clear HO_14; clear HO_16; clear HB; have HO_10 := n0_; have HO_11 := n1_; have HO_14 := n2_; have HO_16 := n3_; have HB := n4_; clear n0_ n1_ n2_ n3_ n4_; (try clear hg); (try clear hb2); (try clear hk); (try clear hi)) | ((with_reducible refine gate_dst (N := 82) rfl ?_); (try (refine gate_guard (by rfl) ?_; dsimp only)); refine Kd.R_lit (Kd.int .u8) _ 5 ?hg (N := 82) ?hd (xs := ([a1] : List Int)) (inner := [.int .u8 a1]) (ok := fun _ => True) (okp := fun _ => True) ?hr ?hp (fun _ hk => hk) trivial (Below.refl _ _) (Nat.le_refl _) (by simp) ?_; (case hd => rfl); (case hg => rfl); (case hr => first | (go_simp; done) | (go_simp; rfl)); (case hp => exact (Reps.one (show Kd.M (Kd.int .u8) _ _ _ a1 [.int .u8 a1] from rfl) (Reps.none _ _))); intro v499 w45 ho46 hb hg_ hnew_; clear hg_ hnew_; (first | rw [← Ny498.out] at ho46 | (simp only [Int.reduceToNat] at ho46; rw [← Ny498.out] at ho46)); have n0_ := Aside0.mk trivial; have n1_ := Aside0.mk trivial; have n2_ := Aside0.mk (Kd.R_elder' (by (with_reducible repeat (first | apply Kd.R_alloc | apply Kd.R_drewN | apply Kd.R_drew)); exact HO_14.out) (Kd.R_base ho46) hb); have n3_ := Aside0.mk (Kd.R_elder' (by (with_reducible repeat (first | apply Kd.R_alloc | apply Kd.R_drewN | apply Kd.R_drew)); exact HO_16.out) (Kd.R_base ho46) hb); have n4_ := Aside0.mk (Kd.R_lower (Kd.R_new' (Kd.R_new' (Kd.R_new' (Kd.R_new' ho46 HO_10.out) HO_11.out) (Kd.R_lt (by (with_reducible repeat (first | apply Kd.R_alloc | apply Kd.R_drewN | apply Kd.R_drew)); exact HO_14.out))) (Kd.R_lt (by (with_reducible repeat (first | apply Kd.R_alloc | apply Kd.R_drewN | apply Kd.R_drew)); exact HO_16.out))) (below_size (by repeat (first | (with_reducible first | exact HB.out | apply below_alloc | apply pw_below_drewN | apply below_drew1) | exact HB.out)))); have n5_ := Aside0.mk (below_step (by repeat (first | (with_reducible first | exact HB.out | apply below_alloc | apply pw_below_drewN | apply below_drew1) | exact HB.out)) hb); clear HO_10; clear HO_11; clear HO_14; clear HO_16; clear HB; have HO_10 := n0_; have HO_11 := n1_; have HO_14 := n2_; have HO_16 := n3_; have HO500 := n4_; have HB := n5_; clear n0_ n1_ n2_ n3_ n4_ n5_; clear hb ho46; obtain ⟨Ao47, co47, eo47⟩ := Kd.R_slice HO500.out; subst eo47) | ((with_reducible refine gate_callee (f := 20) rfl ?_); refine goesL_ (some 83) rfl rfl Tryd.func20 (by kernel_rfl) rfl #[.slice A0 l0.length c0, .slice Ao47 y498.length co47] rfl (by (try simp only [List.map_toArray, List.map_cons, List.map_nil]); first | done | rfl | (simp only [List.length_drop, List.length_take]; rfl)) ?_; (with_reducible refine (letterbagref18_Error.calls kj16 _ _ l0 _ _ y498 t501 _ ?side1 ?side2 ?side3 ?side4 A41.out).mono ?_); (case side1 => repeat (first | exact (Kd.C_below HR0.out HB.out) | (with_reducible refine Kd.C_alloc ?_ _) | (with_reducible refine Kd.C_drewN ?_ _) | (with_reducible refine Kd.C_drew ?_))); (case side2 => exact HC0.out); (case side3 => repeat (first | exact (Kd.R_reads' HO500.out).2.2 | (with_reducible refine Kd.C_alloc ?_ _) | (with_reducible refine Kd.C_drewN ?_ _) | (with_reducible refine Kd.C_drew ?_))); (case side4 => exact (Kd.R_reads' HO500.out).2.1); rintro e w' ⟨rfl, ⟨nd, rfl⟩⟩; refine ⟨_, rfl, ?_⟩))
              (try simp only [Act.put, List.setIfInBounds_toArray, List.set_cons_zero, List.set_cons_succ])
              go_cut [105] (fun v105 wc => ∃ (kq : Nat) (x105_41 : Bool), v105 = .bool x105_41 ∧ Aside0 (letterbaglaw18_FieldValues.j2 kq l0 l2 l3 t487 t490 t491 t494 x105_41 = some true) ∧ Aside0 (kq ≤ kj16) ∧ Aside0 (Kd.R (Kd.int .u8) 5 wc w.heap.size (fun k_ => some k_ ≠ (v492 : Value).ownBlock) v488 t487) ∧ Aside0 (Kd.R (Kd.int .u8) 5 wc w.heap.size (fun k_ => some k_ ≠ (v488 : Value).ownBlock) v492 t491) ∧ Aside0 (Below w.heap.size w wc))
              case first =>
                have H := HC42.out
                clear HC42
                by_cases c48 : t486 = t501
                · rw [if_pos c48] at H
                  have c48b0 : (t486 == t501) = true := beq_iff_eq.mpr c48
                  have c48b1 : (t486 != t501) = false := bne_eq_false_iff_eq.mpr c48
                  clear c48
                  (first | rw [c48b0] | (simp only [i64_w, i32_w]; rw [c48b0]) | skip)
                  by_cases c49 : t501 = 0
                  · rw [if_pos c49] at H
                    have c49b0 : (t501 == 0) = true := beq_iff_eq.mpr c49
                    have c49b1 : (t501 != 0) = false := bne_eq_false_iff_eq.mpr c49
                    clear c49
                    replace H := Option.bind_eq_some_iff.mp H
                    obtain ⟨t502, A500, H⟩ := H
                    replace H : (letterbaglaw18_FieldValues.j2 kj16 l0 l2 l3 t487 t490 t491 t494 (t485 != t502)) = some true := H
                    have A50 := Aside0.mk A500
                    clear A500
                    have H' := Aside0.mk H
                    clear H
                    go_wp2_with (first | (go_at_call 41; (with_reducible refine (letterbagref18_Eval.calls kj16 _ _ l0 a1 t502 _ ?side1 ?side2 A50.out).mono ?_); (case side1 => repeat (first | exact (Kd.C_below HR0.out HB.out) | (with_reducible refine Kd.C_alloc ?_ _) | (with_reducible refine Kd.C_drewN ?_ _) | (with_reducible refine Kd.C_drew ?_))); (case side2 => exact HC0.out); rintro e w' ⟨rfl, ⟨nd, rfl⟩⟩))
                    go_meet
                    case rel => exact ⟨_, ((t485 != t502)), (by first | rfl | (simp; done) | (simp [*]; done)), H', ⟨by have := HJ4.out; have := HJ16.out; first | omega | exact Nat.le_refl _⟩, ⟨by (with_reducible repeat (first | apply Kd.R_alloc | apply Kd.R_drewN | apply Kd.R_drew)); exact Kd.R_mono HO_14.out (fun _ hk => hk.1.2.2)⟩, ⟨by (with_reducible repeat (first | apply Kd.R_alloc | apply Kd.R_drewN | apply Kd.R_drew)); exact Kd.R_mono HO_16.out (fun _ hk => hk.1.2.2)⟩, ⟨by repeat (first | (with_reducible first | exact HB.out | apply below_alloc | apply pw_below_drewN | apply below_drew1) | exact HB.out)⟩⟩
                  · rw [if_neg c49] at H
                    have c49b0 : (t501 == 0) = false := beq_eq_false_iff_ne.mpr c49
                    have c49b1 : (t501 != 0) = true := bne_iff_ne.mpr c49
                    by_cases c51 : t485 = 0
                    · rw [if_pos c51] at H
                      have c51b0 : (t485 == 0) = true := beq_iff_eq.mpr c51
                      have c51b1 : (t485 != 0) = false := bne_eq_false_iff_eq.mpr c51
                      clear c51
                      have H' := Aside0.mk H
                      clear H
                      go_wp2
                      go_meet
                      case rel => exact ⟨_, (false), (by first | rfl | (simp; done) | (simp [*]; done)), H', ⟨by have := HJ4.out; have := HJ16.out; first | omega | exact Nat.le_refl _⟩, ⟨by (with_reducible repeat (first | apply Kd.R_alloc | apply Kd.R_drewN | apply Kd.R_drew)); exact Kd.R_mono HO_14.out (fun _ hk => hk.1.2.2)⟩, ⟨by (with_reducible repeat (first | apply Kd.R_alloc | apply Kd.R_drewN | apply Kd.R_drew)); exact Kd.R_mono HO_16.out (fun _ hk => hk.1.2.2)⟩, ⟨by repeat (first | (with_reducible first | exact HB.out | apply below_alloc | apply pw_below_drewN | apply below_drew1) | exact HB.out)⟩⟩
                    · rw [if_neg c51] at H
                      have c51b0 : (t485 == 0) = false := beq_eq_false_iff_ne.mpr c51
                      have c51b1 : (t485 != 0) = true := bne_iff_ne.mpr c51
                      exact (no_j2 _ _ _ _ _ _ _ _ H).elim
                · rw [if_neg c48] at H
                  have c48b0 : (t486 == t501) = false := beq_eq_false_iff_ne.mpr c48
                  have c48b1 : (t486 != t501) = true := bne_iff_ne.mpr c48
                  (first | rw [c48b0] | (simp only [i64_w, i32_w]; rw [c48b0]) | skip)
                  exact (no_j2 _ _ _ _ _ _ _ _ H).elim
              case rest =>
                as_aux_lemma =>
                  clear HC42
                  try clear c1
                  try clear c2
                  try clear p2
                  try clear c3
                  try clear c4
                  try clear c5
                  try clear c6
                  try clear c6b0
                  try clear c6b1
                  try clear c7
                  try clear c7b0
                  try clear c7b1
                  try clear c8
                  try clear c11
                  try clear c12
                  try clear c18
                  try clear c19
                  try clear c20
                  try clear c28
                  try clear c30
                  try clear c38
                  try clear c39
                  try clear c40
                  try clear c48
                  try clear c48b0
                  try clear c48b1
                  try clear c49
                  try clear c49b0
                  try clear c49b1
                  try clear c51
                  try clear c51b0
                  try clear c51b1
                  try clear p2
                  obtain ⟨kq, x105_41, rfl, HA, HJ41, HO_14, HO_16, HB⟩ := hcut
                  cases kq with
                  | zero => exact absurd HA.out (by simp [letterbaglaw18_FieldValues.j2])
                  | succ kj41 =>
                    have H := HA.out
                    clear HA
                    simp only [letterbaglaw18_FieldValues.j2] at H
                    by_cases c52 : x105_41 = true
                    · subst c52
                      have H1 : (some false) = some true := by rw [if_pos rfl] at H; exact H
                      exact absurd H1 (by decide)
                    · replace c52 := Bool.eq_false_iff.mpr c52
                      subst c52
                      have H1 : ((letterbagref18_Error.f kj41 l0 ([] : List Int)).bind fun t503 => (if t503 = 0 then ((letterbagref18_Degree.f kj41 l0).bind fun t504 => (if t504 < 0 then (if t490 = 6 then (if (t487.length : Int) = 0 then (letterbaglaw18_FieldValues.j3 kj41 l2 l3 t491 t494) else (some false)) else (some false)) else (if t490 = 0 then ((letterbagref18_Roots.f kj41 l0).bind fun t505 => ((letterbagkit_SameBytes.f kj41 t487 t505).bind fun t508 => (if t508 = true then (letterbaglaw18_FieldValues.j3 kj41 l2 l3 t491 t494) else (some false)))) else (some false)))) else (if t490 = t503 then (if (t487.length : Int) = 0 then (letterbaglaw18_FieldValues.j3 kj41 l2 l3 t491 t494) else (some false)) else (some false)))) = some true := by rw [if_neg (show ¬ (false = true) by decide)] at H; exact H
                      clear H
                      have H := H1
                      clear H1
                      replace H := Option.bind_eq_some_iff.mp H
                      obtain ⟨t503, A530, H⟩ := H
                      replace H : (if t503 = 0 then ((letterbagref18_Degree.f kj41 l0).bind fun t504 => (if t504 < 0 then (if t490 = 6 then (if (t487.length : Int) = 0 then (letterbaglaw18_FieldValues.j3 kj41 l2 l3 t491 t494) else (some false)) else (some false)) else (if t490 = 0 then ((letterbagref18_Roots.f kj41 l0).bind fun t505 => ((letterbagkit_SameBytes.f kj41 t487 t505).bind fun t508 => (if t508 = true then (letterbaglaw18_FieldValues.j3 kj41 l2 l3 t491 t494) else (some false)))) else (some false)))) else (if t490 = t503 then (if (t487.length : Int) = 0 then (letterbaglaw18_FieldValues.j3 kj41 l2 l3 t491 t494) else (some false)) else (some false))) = some true := H
                      have A53 := Aside0.mk A530
                      clear A530
                      have HC54 := Aside0.mk H
                      clear H
                      go_upto_block 0 with (first | ((with_reducible refine gate_callee (f := 20) rfl ?_); refine goesL_ (some 107) rfl rfl Tryd.func20 (by kernel_rfl) rfl #[.slice A0 l0.length c0, .slice none 0 0] rfl (by (try simp only [List.map_toArray, List.map_cons, List.map_nil]); first | done | rfl | (simp only [List.length_drop, List.length_take]; rfl)) ?_; (refine (letterbagref18_Error.calls kj41 _ _ l0 _ _ ([] : List Int) t503 _ ?side1 ?side2 ?side3 ?side4 A53.out).mono ?_); (case side1 => repeat (first | exact (Kd.C_below HR0.out HB.out) | (with_reducible refine Kd.C_alloc ?_ _) | (with_reducible refine Kd.C_drewN ?_ _) | (with_reducible refine Kd.C_drew ?_))); (case side2 => exact HC0.out); (case side3 => exact Kd.C_nil _ _); (case side4 => exact Nat.le_refl _); rintro e w' ⟨rfl, ⟨nd, rfl⟩⟩; refine ⟨_, rfl, ?_⟩))
                      (try simp only [Act.put, List.setIfInBounds_toArray, List.set_cons_zero, List.set_cons_succ])
                      go_cut [] (fun wc => ∃ (kq : Nat), Aside0 (letterbaglaw18_FieldValues.j3 kq l2 l3 t491 t494 = some true) ∧ Aside0 (kq ≤ kj41) ∧ Aside0 (Kd.R (Kd.int .u8) 5 wc w.heap.size (fun _ => True) v492 t491) ∧ Aside0 (Below w.heap.size w wc))
                      case first =>
                        have H := HC54.out
                        clear HC54
                        by_cases c55 : t503 = 0
                        · rw [if_pos c55] at H
                          have c55b0 : (t503 == 0) = true := beq_iff_eq.mpr c55
                          have c55b1 : (t503 != 0) = false := bne_eq_false_iff_eq.mpr c55
                          clear c55
                          (first | rw [c55b0] | (simp only [i64_w, i32_w]; rw [c55b0]) | skip)
                          replace H := Option.bind_eq_some_iff.mp H
                          obtain ⟨t504, A560, H⟩ := H
                          replace H : (if t504 < 0 then (if t490 = 6 then (if (t487.length : Int) = 0 then (letterbaglaw18_FieldValues.j3 kj41 l2 l3 t491 t494) else (some false)) else (some false)) else (if t490 = 0 then ((letterbagref18_Roots.f kj41 l0).bind fun t505 => ((letterbagkit_SameBytes.f kj41 t487 t505).bind fun t508 => (if t508 = true then (letterbaglaw18_FieldValues.j3 kj41 l2 l3 t491 t494) else (some false)))) else (some false))) = some true := H
                          have A56 := Aside0.mk A560
                          clear A560
                          by_cases c57 : t504 < 0
                          · rw [if_pos c57] at H
                            have c57b0 : decide (t504 < 0) = true := decide_eq_true c57
                            clear c57
                            by_cases c58 : t490 = 6
                            · rw [if_pos c58] at H
                              have c58b0 : (t490 == 6) = true := beq_iff_eq.mpr c58
                              have c58b1 : (t490 != 6) = false := bne_eq_false_iff_eq.mpr c58
                              clear c58
                              by_cases c59 : (t487.length : Int) = 0
                              · rw [if_pos c59] at H
                                have c59b0 : ((t487.length : Int) == 0) = true := beq_iff_eq.mpr c59
                                have c59b1 : ((t487.length : Int) != 0) = false := bne_eq_false_iff_eq.mpr c59
                                clear c59
                                have H' := Aside0.mk H
                                clear H
                                go_wp2_with (first | ((with_reducible refine gate_callee (f := 23) rfl ?_); refine goesL_ (some 130) rfl rfl Tryd.func23 (by kernel_rfl) rfl #[.slice A0 l0.length c0] rfl (by (try simp only [List.map_toArray, List.map_cons, List.map_nil]); first | done | rfl | (simp only [List.length_drop, List.length_take]; rfl)) ?_; (with_reducible refine (letterbagref18_Degree.calls kj41 _ _ l0 t504 _ ?side1 ?side2 A56.out).mono ?_); (case side1 => repeat (first | exact (Kd.C_below HR0.out HB.out) | (with_reducible refine Kd.C_alloc ?_ _) | (with_reducible refine Kd.C_drewN ?_ _) | (with_reducible refine Kd.C_drew ?_))); (case side2 => exact HC0.out); rintro e w' ⟨rfl, ⟨nd, rfl⟩⟩; refine ⟨_, rfl, ?_⟩; obtain ⟨Ao60, co60, eo60⟩ := Kd.R_slice HO_14.out; subst eo60))
                                go_meet
                                case rel => exact ⟨_, H', ⟨by have := HJ4.out; have := HJ16.out; have := HJ41.out; first | omega | exact Nat.le_refl _⟩, ⟨by (with_reducible repeat (first | apply Kd.R_alloc | apply Kd.R_drewN | apply Kd.R_drew)); exact Kd.R_mono HO_16.out (fun _ hk => trivial)⟩, ⟨by repeat (first | (with_reducible first | exact HB.out | apply below_alloc | apply pw_below_drewN | apply below_drew1) | exact HB.out)⟩⟩
                              · rw [if_neg c59] at H
                                have c59b0 : ((t487.length : Int) == 0) = false := beq_eq_false_iff_ne.mpr c59
                                have c59b1 : ((t487.length : Int) != 0) = true := bne_iff_ne.mpr c59
                                have c59b2 : ¬ (t487 = []) := fun h_ => c59 (by rw [h_]; rfl)
                                try exact absurd H (by decide)
                                all_goals (have HTR := Aside0.mk (Option.some.inj H))
                                all_goals (go_wp2_with (first | ((with_reducible refine gate_callee (f := 23) rfl ?_); refine goesL_ (some 130) rfl rfl Tryd.func23 (by kernel_rfl) rfl #[.slice A0 l0.length c0] rfl (by (try simp only [List.map_toArray, List.map_cons, List.map_nil]); first | done | rfl | (simp only [List.length_drop, List.length_take]; rfl)) ?_; (with_reducible refine (letterbagref18_Degree.calls kj41 _ _ l0 t504 _ ?side1 ?side2 A56.out).mono ?_); (case side1 => repeat (first | exact (Kd.C_below HR0.out HB.out) | (with_reducible refine Kd.C_alloc ?_ _) | (with_reducible refine Kd.C_drewN ?_ _) | (with_reducible refine Kd.C_drew ?_))); (case side2 => exact HC0.out); rintro e w' ⟨rfl, ⟨nd, rfl⟩⟩; refine ⟨_, rfl, ?_⟩; obtain ⟨Ao61, co61, eo61⟩ := Kd.R_slice HO_14.out; subst eo61)))
                                all_goals (go_ret)
                                all_goals (exact ⟨by first | rfl | (rw [HTR.out]; rfl) | (simp [errW_none, errW_some] <;> rfl) | (simp [*, errW_none, errW_some] <;> rfl), by repeat (first | (with_reducible first | exact HB.out | apply below_alloc | apply pw_below_drewN | apply below_drew1) | exact HB.out)⟩)
                            · rw [if_neg c58] at H
                              have c58b0 : (t490 == 6) = false := beq_eq_false_iff_ne.mpr c58
                              have c58b1 : (t490 != 6) = true := bne_iff_ne.mpr c58
                              try exact absurd H (by decide)
                              all_goals (have HTR := Aside0.mk (Option.some.inj H))
                              all_goals (go_wp2_with (first | ((with_reducible refine gate_callee (f := 23) rfl ?_); refine goesL_ (some 130) rfl rfl Tryd.func23 (by kernel_rfl) rfl #[.slice A0 l0.length c0] rfl (by (try simp only [List.map_toArray, List.map_cons, List.map_nil]); first | done | rfl | (simp only [List.length_drop, List.length_take]; rfl)) ?_; (with_reducible refine (letterbagref18_Degree.calls kj41 _ _ l0 t504 _ ?side1 ?side2 A56.out).mono ?_); (case side1 => repeat (first | exact (Kd.C_below HR0.out HB.out) | (with_reducible refine Kd.C_alloc ?_ _) | (with_reducible refine Kd.C_drewN ?_ _) | (with_reducible refine Kd.C_drew ?_))); (case side2 => exact HC0.out); rintro e w' ⟨rfl, ⟨nd, rfl⟩⟩; refine ⟨_, rfl, ?_⟩)))
                              all_goals (go_ret)
                              all_goals (exact ⟨by first | rfl | (rw [HTR.out]; rfl) | (simp [errW_none, errW_some] <;> rfl) | (simp [*, errW_none, errW_some] <;> rfl), by repeat (first | (with_reducible first | exact HB.out | apply below_alloc | apply pw_below_drewN | apply below_drew1) | exact HB.out)⟩)
                          · rw [if_neg c57] at H
                            have c57b0 : decide (t504 < 0) = false := decide_eq_false c57
                            clear c57
                            by_cases c62 : t490 = 0
                            · rw [if_pos c62] at H
                              have c62b0 : (t490 == 0) = true := beq_iff_eq.mpr c62
                              have c62b1 : (t490 != 0) = false := bne_eq_false_iff_eq.mpr c62
                              clear c62
                              replace H := Option.bind_eq_some_iff.mp H
                              obtain ⟨t505, A630, H⟩ := H
                              replace H : ((letterbagkit_SameBytes.f kj41 t487 t505).bind fun t508 => (if t508 = true then (letterbaglaw18_FieldValues.j3 kj41 l2 l3 t491 t494) else (some false))) = some true := H
                              have A63 := Aside0.mk A630
                              clear A630
                              replace H := Option.bind_eq_some_iff.mp H
                              obtain ⟨t508, A640, H⟩ := H
                              replace H : (if t508 = true then (letterbaglaw18_FieldValues.j3 kj41 l2 l3 t491 t494) else (some false)) = some true := H
                              have A64 := Aside0.mk A640
                              clear A640
                              by_cases c65 : t508 = true
                              · subst c65
                                have H1 : (letterbaglaw18_FieldValues.j3 kj41 l2 l3 t491 t494) = some true := by rw [if_pos rfl] at H; exact H
                                clear H
                                have H := H1
                                clear H1
                                have H' := Aside0.mk H
                                clear H
                                go_wp2_with (first | ((with_reducible refine gate_callee (f := 23) rfl ?_); refine goesL_ (some 130) rfl rfl Tryd.func23 (by kernel_rfl) rfl #[.slice A0 l0.length c0] rfl (by (try simp only [List.map_toArray, List.map_cons, List.map_nil]); first | done | rfl | (simp only [List.length_drop, List.length_take]; rfl)) ?_; (with_reducible refine (letterbagref18_Degree.calls kj41 _ _ l0 t504 _ ?side1 ?side2 A56.out).mono ?_); (case side1 => repeat (first | exact (Kd.C_below HR0.out HB.out) | (with_reducible refine Kd.C_alloc ?_ _) | (with_reducible refine Kd.C_drewN ?_ _) | (with_reducible refine Kd.C_drew ?_))); (case side2 => exact HC0.out); rintro e w' ⟨rfl, ⟨nd, rfl⟩⟩; refine ⟨_, rfl, ?_⟩) | (go_at_call 42; (with_reducible refine (letterbagref18_Roots.calls kj41 _ _ l0 t505 _ ?side1 ?side2 A63.out).mono ?_); (case side1 => repeat (first | exact (Kd.C_below HR0.out (by repeat (first | (with_reducible first | exact HB.out | apply below_alloc | apply pw_below_drewN | apply below_drew1) | exact HB.out))) | (with_reducible refine Kd.C_alloc ?_ _) | (with_reducible refine Kd.C_drewN ?_ _) | (with_reducible refine Kd.C_drew ?_))); (case side2 => exact HC0.out); rintro e w66 ⟨v506, rfl, ho0, hb⟩; have n0_ := Aside0.mk (Kd.R_elder' (by (with_reducible repeat (first | apply Kd.R_alloc | apply Kd.R_drewN | apply Kd.R_drew)); exact HO_14.out) (Kd.R_base ho0) hb); have n1_ := Aside0.mk (Kd.R_elder' (by (with_reducible repeat (first | apply Kd.R_alloc | apply Kd.R_drewN | apply Kd.R_drew)); exact HO_16.out) (Kd.R_base ho0) hb); have n2_ := Aside0.mk (Kd.R_lower (Kd.R_new' (Kd.R_new' ho0 (Kd.R_lt (by (with_reducible repeat (first | apply Kd.R_alloc | apply Kd.R_drewN | apply Kd.R_drew)); exact HO_14.out))) (Kd.R_lt (by (with_reducible repeat (first | apply Kd.R_alloc | apply Kd.R_drewN | apply Kd.R_drew)); exact HO_16.out))) (below_size (by repeat (first | (with_reducible first | exact HB.out | apply below_alloc | apply pw_below_drewN | apply below_drew1) | exact HB.out)))); have n3_ := Aside0.mk (below_step (by repeat (first | (with_reducible first | exact HB.out | apply below_alloc | apply pw_below_drewN | apply below_drew1) | exact HB.out)) hb); clear HO_14; clear HO_16; clear HB; have HO_14 := n0_; have HO_16 := n1_; have HO507 := n2_; have HB := n3_; clear n0_ n1_ n2_ n3_; (try clear hb); (try clear hb2); (try clear hk); (try clear hi); (try clear ho0); obtain ⟨Ao67, co67, eo67⟩ := Kd.R_slice HO_14.out; subst eo67; obtain ⟨Ao68, co68, eo68⟩ := Kd.R_slice HO507.out; subst eo68) | (go_at_call 21; (with_reducible refine (letterbagkit_SameBytes.calls kj41 _ _ t487 _ _ t505 true _ ?side1 ?side2 ?side3 ?side4 A64.out).mono ?_); (case side1 => repeat (first | exact (Kd.R_reads' HO_14.out).2.2 | (with_reducible refine Kd.C_alloc ?_ _) | (with_reducible refine Kd.C_drewN ?_ _) | (with_reducible refine Kd.C_drew ?_))); (case side2 => exact (Kd.R_reads' HO_14.out).2.1); (case side3 => repeat (first | exact (Kd.R_reads' HO507.out).2.2 | (with_reducible refine Kd.C_alloc ?_ _) | (with_reducible refine Kd.C_drewN ?_ _) | (with_reducible refine Kd.C_drew ?_))); (case side4 => exact (Kd.R_reads' HO507.out).2.1); rintro e w' ⟨rfl, ⟨nd, rfl⟩⟩))
                                go_meet
                                case rel => exact ⟨_, H', ⟨by have := HJ4.out; have := HJ16.out; have := HJ41.out; first | omega | exact Nat.le_refl _⟩, ⟨by (with_reducible repeat (first | apply Kd.R_alloc | apply Kd.R_drewN | apply Kd.R_drew)); exact Kd.R_mono HO_16.out (fun _ hk => trivial)⟩, ⟨by repeat (first | (with_reducible first | exact HB.out | apply below_alloc | apply pw_below_drewN | apply below_drew1) | exact HB.out)⟩⟩
                              · replace c65 := Bool.eq_false_iff.mpr c65
                                subst c65
                                have H1 : (some false) = some true := by rw [if_neg (show ¬ (false = true) by decide)] at H; exact H
                                exact absurd H1 (by decide)
                            · rw [if_neg c62] at H
                              have c62b0 : (t490 == 0) = false := beq_eq_false_iff_ne.mpr c62
                              have c62b1 : (t490 != 0) = true := bne_iff_ne.mpr c62
                              try exact absurd H (by decide)
                              all_goals (have HTR := Aside0.mk (Option.some.inj H))
                              all_goals (go_wp2_with (first | ((with_reducible refine gate_callee (f := 23) rfl ?_); refine goesL_ (some 130) rfl rfl Tryd.func23 (by kernel_rfl) rfl #[.slice A0 l0.length c0] rfl (by (try simp only [List.map_toArray, List.map_cons, List.map_nil]); first | done | rfl | (simp only [List.length_drop, List.length_take]; rfl)) ?_; (with_reducible refine (letterbagref18_Degree.calls kj41 _ _ l0 t504 _ ?side1 ?side2 A56.out).mono ?_); (case side1 => repeat (first | exact (Kd.C_below HR0.out HB.out) | (with_reducible refine Kd.C_alloc ?_ _) | (with_reducible refine Kd.C_drewN ?_ _) | (with_reducible refine Kd.C_drew ?_))); (case side2 => exact HC0.out); rintro e w' ⟨rfl, ⟨nd, rfl⟩⟩; refine ⟨_, rfl, ?_⟩)))
                              all_goals (go_ret)
                              all_goals (exact ⟨by first | rfl | (rw [HTR.out]; rfl) | (simp [errW_none, errW_some] <;> rfl) | (simp [*, errW_none, errW_some] <;> rfl), by repeat (first | (with_reducible first | exact HB.out | apply below_alloc | apply pw_below_drewN | apply below_drew1) | exact HB.out)⟩)
                        · rw [if_neg c55] at H
                          have c55b0 : (t503 == 0) = false := beq_eq_false_iff_ne.mpr c55
                          have c55b1 : (t503 != 0) = true := bne_iff_ne.mpr c55
                          (first | rw [c55b0] | (simp only [i64_w, i32_w]; rw [c55b0]) | skip)
                          by_cases c72 : t490 = t503
                          · rw [if_pos c72] at H
                            have c72b0 : (t490 == t503) = true := beq_iff_eq.mpr c72
                            have c72b1 : (t490 != t503) = false := bne_eq_false_iff_eq.mpr c72
                            clear c72
                            by_cases c73 : (t487.length : Int) = 0
                            · rw [if_pos c73] at H
                              have c73b0 : ((t487.length : Int) == 0) = true := beq_iff_eq.mpr c73
                              have c73b1 : ((t487.length : Int) != 0) = false := bne_eq_false_iff_eq.mpr c73
                              clear c73
                              have H' := Aside0.mk H
                              clear H
                              obtain ⟨Ao74, co74, eo74⟩ := Kd.R_slice HO_14.out
                              subst eo74
                              go_wp2
                              go_meet
                              case rel => exact ⟨_, H', ⟨by have := HJ4.out; have := HJ16.out; have := HJ41.out; first | omega | exact Nat.le_refl _⟩, ⟨by (with_reducible repeat (first | apply Kd.R_alloc | apply Kd.R_drewN | apply Kd.R_drew)); exact Kd.R_mono HO_16.out (fun _ hk => trivial)⟩, ⟨by repeat (first | (with_reducible first | exact HB.out | apply below_alloc | apply pw_below_drewN | apply below_drew1) | exact HB.out)⟩⟩
                            · rw [if_neg c73] at H
                              have c73b0 : ((t487.length : Int) == 0) = false := beq_eq_false_iff_ne.mpr c73
                              have c73b1 : ((t487.length : Int) != 0) = true := bne_iff_ne.mpr c73
                              have c73b2 : ¬ (t487 = []) := fun h_ => c73 (by rw [h_]; rfl)
                              try exact absurd H (by decide)
                              all_goals (have HTR := Aside0.mk (Option.some.inj H))
                              all_goals (obtain ⟨Ao75, co75, eo75⟩ := Kd.R_slice HO_14.out)
                              all_goals (subst eo75)
                              all_goals (go_wp2)
                              all_goals (go_ret)
                              all_goals (exact ⟨by first | rfl | (rw [HTR.out]; rfl) | (simp [errW_none, errW_some] <;> rfl) | (simp [*, errW_none, errW_some] <;> rfl), by repeat (first | (with_reducible first | exact HB.out | apply below_alloc | apply pw_below_drewN | apply below_drew1) | exact HB.out)⟩)
                          · rw [if_neg c72] at H
                            have c72b0 : (t490 == t503) = false := beq_eq_false_iff_ne.mpr c72
                            have c72b1 : (t490 != t503) = true := bne_iff_ne.mpr c72
                            try exact absurd H (by decide)
                            all_goals (have HTR := Aside0.mk (Option.some.inj H))
                            all_goals (go_wp2)
                            all_goals (go_ret)
                            all_goals (exact ⟨by first | rfl | (rw [HTR.out]; rfl) | (simp [errW_none, errW_some] <;> rfl) | (simp [*, errW_none, errW_some] <;> rfl), by repeat (first | (with_reducible first | exact HB.out | apply below_alloc | apply pw_below_drewN | apply below_drew1) | exact HB.out)⟩)
                      case rest =>
                        as_aux_lemma =>
                          clear HC54
                          try clear c1
                          try clear c2
                          try clear p2
                          try clear c3
                          try clear c4
                          try clear c5
                          try clear c6
                          try clear c6b0
                          try clear c6b1
                          try clear c7
                          try clear c7b0
                          try clear c7b1
                          try clear c8
                          try clear c11
                          try clear c12
                          try clear c18
                          try clear c19
                          try clear c20
                          try clear c23
                          try clear c28
                          try clear c30
                          try clear c38
                          try clear c39
                          try clear c40
                          try clear c48
                          try clear c48b0
                          try clear c48b1
                          try clear c49
                          try clear c49b0
                          try clear c49b1
                          try clear c51
                          try clear c51b0
                          try clear c51b1
                          try clear c52
                          try clear c55
                          try clear c55b0
                          try clear c55b1
                          try clear c57
                          try clear c57b0
                          try clear c58
                          try clear c58b0
                          try clear c58b1
                          try clear c59
                          try clear c59b0
                          try clear c59b1
                          try clear c59b2
                          try clear c62
                          try clear c62b0
                          try clear c62b1
                          try clear c65
                          try clear c72
                          try clear c72b0
                          try clear c72b1
                          try clear c73
                          try clear c73b0
                          try clear c73b1
                          try clear c73b2
                          try clear p2
                          obtain ⟨kq, HA, HJ53, HO_16, HB⟩ := hcut
                          cases kq with
                          | zero => exact absurd HA.out (by simp [letterbaglaw18_FieldValues.j3])
                          | succ kj53 =>
                            have H := HA.out
                            clear HA
                            simp only [letterbaglaw18_FieldValues.j3] at H
                            replace H := Option.bind_eq_some_iff.mp H
                            obtain ⟨t509, A760, H⟩ := H
                            replace H : (if t509 = 0 then (letterbaglaw18_FieldValues.j4 kj53 l2 l3 t491 t494 t509 ((l2.length : Int) != (l3.length : Int))) else (letterbaglaw18_FieldValues.j4 kj53 l2 l3 t491 t494 t509 false)) = some true := H
                            have A76 := Aside0.mk A760
                            clear A760
                            have HC77 := Aside0.mk H
                            clear H
                            go_upto_region 24 with (first | ((with_reducible refine gate_callee (f := 20) rfl ?_); refine goesL_ (some 141) rfl rfl Tryd.func20 (by kernel_rfl) rfl #[.slice A2 l2.length c2, .slice A3 l3.length c3] rfl (by (try simp only [List.map_toArray, List.map_cons, List.map_nil]); first | done | rfl | (simp only [List.length_drop, List.length_take]; rfl)) ?_; (with_reducible refine (letterbagref18_Error.calls kj53 _ _ l2 _ _ l3 t509 _ ?side1 ?side2 ?side3 ?side4 A76.out).mono ?_); (case side1 => repeat (first | exact (Kd.C_below HR2.out HB.out) | (with_reducible refine Kd.C_alloc ?_ _) | (with_reducible refine Kd.C_drewN ?_ _) | (with_reducible refine Kd.C_drew ?_))); (case side2 => exact HC2.out); (case side3 => repeat (first | exact (Kd.C_below HR3.out HB.out) | (with_reducible refine Kd.C_alloc ?_ _) | (with_reducible refine Kd.C_drewN ?_ _) | (with_reducible refine Kd.C_drew ?_))); (case side4 => exact HC3.out); rintro e w' ⟨rfl, ⟨nd, rfl⟩⟩; refine ⟨_, rfl, ?_⟩))
                            (try simp only [Act.put, List.setIfInBounds_toArray, List.set_cons_zero, List.set_cons_succ])
                            go_cut [150] (fun v150 wc => ∃ (kq : Nat) (x150_76 : Bool), v150 = .bool x150_76 ∧ Aside0 (letterbaglaw18_FieldValues.j4 kq l2 l3 t491 t494 t509 x150_76 = some true) ∧ Aside0 (kq ≤ kj53) ∧ Aside0 (Kd.R (Kd.int .u8) 5 wc w.heap.size (fun _ => True) v492 t491) ∧ Aside0 (Below w.heap.size w wc))
                            case first =>
                              have H := HC77.out
                              clear HC77
                              by_cases c78 : t509 = 0
                              · rw [if_pos c78] at H
                                have c78b0 : (t509 == 0) = true := beq_iff_eq.mpr c78
                                have c78b1 : (t509 != 0) = false := bne_eq_false_iff_eq.mpr c78
                                clear c78
                                (first | rw [c78b0] | (simp only [i64_w, i32_w]; rw [c78b0]) | skip)
                                have H' := Aside0.mk H
                                clear H
                                go_wp2
                                go_meet
                                case rel => exact ⟨_, (((l2.length : Int) != (l3.length : Int))), (by first | rfl | (simp; done) | (simp [*]; done)), H', ⟨by have := HJ4.out; have := HJ16.out; have := HJ41.out; have := HJ53.out; first | omega | exact Nat.le_refl _⟩, ⟨by (with_reducible repeat (first | apply Kd.R_alloc | apply Kd.R_drewN | apply Kd.R_drew)); exact HO_16.out⟩, ⟨by repeat (first | (with_reducible first | exact HB.out | apply below_alloc | apply pw_below_drewN | apply below_drew1) | exact HB.out)⟩⟩
                              · rw [if_neg c78] at H
                                have c78b0 : (t509 == 0) = false := beq_eq_false_iff_ne.mpr c78
                                have c78b1 : (t509 != 0) = true := bne_iff_ne.mpr c78
                                (first | rw [c78b0] | (simp only [i64_w, i32_w]; rw [c78b0]) | skip)
                                have H' := Aside0.mk H
                                clear H
                                go_wp2
                                go_meet
                                case rel => exact ⟨_, (false), (by first | rfl | (simp; done) | (simp [*]; done)), H', ⟨by have := HJ4.out; have := HJ16.out; have := HJ41.out; have := HJ53.out; first | omega | exact Nat.le_refl _⟩, ⟨by (with_reducible repeat (first | apply Kd.R_alloc | apply Kd.R_drewN | apply Kd.R_drew)); exact HO_16.out⟩, ⟨by repeat (first | (with_reducible first | exact HB.out | apply below_alloc | apply pw_below_drewN | apply below_drew1) | exact HB.out)⟩⟩
                            case rest =>
                              as_aux_lemma =>
                                clear HC77
                                try clear c1
                                try clear c2
                                try clear p2
                                try clear c3
                                try clear c4
                                try clear c5
                                try clear c6
                                try clear c6b0
                                try clear c6b1
                                try clear c7
                                try clear c7b0
                                try clear c7b1
                                try clear c8
                                try clear c11
                                try clear c12
                                try clear c18
                                try clear c19
                                try clear c20
                                try clear c23
                                try clear c28
                                try clear c30
                                try clear c38
                                try clear c39
                                try clear c40
                                try clear c48
                                try clear c48b0
                                try clear c48b1
                                try clear c49
                                try clear c49b0
                                try clear c49b1
                                try clear c51
                                try clear c51b0
                                try clear c51b1
                                try clear c52
                                try clear c55
                                try clear c55b0
                                try clear c55b1
                                try clear c57
                                try clear c57b0
                                try clear c58
                                try clear c58b0
                                try clear c58b1
                                try clear c59
                                try clear c59b0
                                try clear c59b1
                                try clear c59b2
                                try clear c62
                                try clear c62b0
                                try clear c62b1
                                try clear c65
                                try clear c72
                                try clear c72b0
                                try clear c72b1
                                try clear c73
                                try clear c73b0
                                try clear c73b1
                                try clear c73b2
                                try clear c78
                                try clear c78b0
                                try clear c78b1
                                try clear p2
                                obtain ⟨kq, x150_76, rfl, HA, HJ76, HO_16, HB⟩ := hcut
                                cases kq with
                                | zero => exact absurd HA.out (by simp [letterbaglaw18_FieldValues.j4])
                                | succ kj76 =>
                                  have H := HA.out
                                  clear HA
                                  simp only [letterbaglaw18_FieldValues.j4] at H
                                  have HC79 := Aside0.mk H
                                  clear H
                                  go_upto_if 150 with (fail)
                                  go_cut [20] (fun v20 wc => ∃ (kq : Nat) (x20_78 : Int), v20 = .int .i64 x20_78 ∧ Aside0 (letterbaglaw18_FieldValues.j5 kq l2 l3 t491 t494 x20_78 = some true) ∧ Aside0 (kq ≤ kj76) ∧ Aside0 (Kd.R (Kd.int .u8) 5 wc w.heap.size (fun _ => True) v492 t491) ∧ Aside0 (Below w.heap.size w wc))
                                  case first =>
                                    have H := HC79.out
                                    clear HC79
                                    by_cases c80 : x150_76 = true
                                    · subst c80
                                      have H1 : (letterbaglaw18_FieldValues.j5 kj76 l2 l3 t491 t494 2) = some true := by rw [if_pos rfl] at H; exact H
                                      clear H
                                      have H := H1
                                      clear H1
                                      have H' := Aside0.mk H
                                      clear H
                                      go_wp2
                                      go_meet
                                      case rel => exact ⟨_, (2), (by first | rfl | (simp; done) | (simp [*]; done)), H', ⟨by have := HJ4.out; have := HJ16.out; have := HJ41.out; have := HJ53.out; have := HJ76.out; first | omega | exact Nat.le_refl _⟩, ⟨by (with_reducible repeat (first | apply Kd.R_alloc | apply Kd.R_drewN | apply Kd.R_drew)); exact HO_16.out⟩, ⟨by repeat (first | (with_reducible first | exact HB.out | apply below_alloc | apply pw_below_drewN | apply below_drew1) | exact HB.out)⟩⟩
                                    · replace c80 := Bool.eq_false_iff.mpr c80
                                      subst c80
                                      have H1 : (letterbaglaw18_FieldValues.j5 kj76 l2 l3 t491 t494 t509) = some true := by rw [if_neg (show ¬ (false = true) by decide)] at H; exact H
                                      clear H
                                      have H := H1
                                      clear H1
                                      have H' := Aside0.mk H
                                      clear H
                                      go_wp2
                                      go_meet
                                      case rel => exact ⟨_, (t509), (by first | rfl | (simp; done) | (simp [*]; done)), H', ⟨by have := HJ4.out; have := HJ16.out; have := HJ41.out; have := HJ53.out; have := HJ76.out; first | omega | exact Nat.le_refl _⟩, ⟨by (with_reducible repeat (first | apply Kd.R_alloc | apply Kd.R_drewN | apply Kd.R_drew)); exact HO_16.out⟩, ⟨by repeat (first | (with_reducible first | exact HB.out | apply below_alloc | apply pw_below_drewN | apply below_drew1) | exact HB.out)⟩⟩
                                  case rest =>
                                    clear HC79
                                    try clear c1
                                    try clear c2
                                    try clear p2
                                    try clear c3
                                    try clear c4
                                    try clear c5
                                    try clear c6
                                    try clear c6b0
                                    try clear c6b1
                                    try clear c7
                                    try clear c7b0
                                    try clear c7b1
                                    try clear c8
                                    try clear c11
                                    try clear c12
                                    try clear c18
                                    try clear c19
                                    try clear c20
                                    try clear c23
                                    try clear c28
                                    try clear c30
                                    try clear c38
                                    try clear c39
                                    try clear c40
                                    try clear c48
                                    try clear c48b0
                                    try clear c48b1
                                    try clear c49
                                    try clear c49b0
                                    try clear c49b1
                                    try clear c51
                                    try clear c51b0
                                    try clear c51b1
                                    try clear c52
                                    try clear c55
                                    try clear c55b0
                                    try clear c55b1
                                    try clear c57
                                    try clear c57b0
                                    try clear c58
                                    try clear c58b0
                                    try clear c58b1
                                    try clear c59
                                    try clear c59b0
                                    try clear c59b1
                                    try clear c59b2
                                    try clear c62
                                    try clear c62b0
                                    try clear c62b1
                                    try clear c65
                                    try clear c72
                                    try clear c72b0
                                    try clear c72b1
                                    try clear c73
                                    try clear c73b0
                                    try clear c73b1
                                    try clear c73b2
                                    try clear c78
                                    try clear c78b0
                                    try clear c78b1
                                    try clear c80
                                    try clear p2
                                    obtain ⟨kq, x20_78, rfl, HA, HJ78, HO_16, HB⟩ := hcut
                                    cases kq with
                                    | zero => exact absurd HA.out (by simp [letterbaglaw18_FieldValues.j5])
                                    | succ kj78 =>
                                      have H := HA.out
                                      clear HA
                                      simp only [letterbaglaw18_FieldValues.j5] at H
                                      by_cases c81 : x20_78 = 0
                                      · rw [if_pos c81] at H
                                        have c81b0 : (x20_78 == 0) = true := beq_iff_eq.mpr c81
                                        have c81b1 : (x20_78 != 0) = false := bne_eq_false_iff_eq.mpr c81
                                        clear c81
                                        replace H := Option.bind_eq_some_iff.mp H
                                        obtain ⟨⟨t511, t512⟩, A820, H⟩ := H
                                        replace H : (if t512 = true then (if t494 = 0 then ((letterbagkit_SameBytes.f kj78 t491 t511).bind fun t515 => (if t515 = true then ((letterbaglaw18_awake.f).bind fun t516 => (some t516)) else (some false))) else (some false)) else (if t494 = 2 then (if (t491.length : Int) = 0 then ((letterbaglaw18_awake.f).bind fun t517 => (some t517)) else (some false)) else (some false))) = some true := H
                                        have A82 := Aside0.mk A820
                                        clear A820
                                        by_cases c83 : t512 = true
                                        · subst c83
                                          have H1 : (if t494 = 0 then ((letterbagkit_SameBytes.f kj78 t491 t511).bind fun t515 => (if t515 = true then ((letterbaglaw18_awake.f).bind fun t516 => (some t516)) else (some false))) else (some false)) = some true := by rw [if_pos rfl] at H; exact H
                                          clear H
                                          have H := H1
                                          clear H1
                                          by_cases c84 : t494 = 0
                                          · rw [if_pos c84] at H
                                            have c84b0 : (t494 == 0) = true := beq_iff_eq.mpr c84
                                            have c84b1 : (t494 != 0) = false := bne_eq_false_iff_eq.mpr c84
                                            clear c84
                                            replace H := Option.bind_eq_some_iff.mp H
                                            obtain ⟨t515, A850, H⟩ := H
                                            replace H : (if t515 = true then ((letterbaglaw18_awake.f).bind fun t516 => (some t516)) else (some false)) = some true := H
                                            have A85 := Aside0.mk A850
                                            clear A850
                                            by_cases c86 : t515 = true
                                            · subst c86
                                              have H1 : ((letterbaglaw18_awake.f).bind fun t516 => (some t516)) = some true := by rw [if_pos rfl] at H; exact H
                                              clear H
                                              have H := H1
                                              clear H1
                                              replace H := Option.bind_eq_some_iff.mp H
                                              obtain ⟨t516, A870, H⟩ := H
                                              replace H : (some t516) = some true := H
                                              have A87 := Aside0.mk A870
                                              clear A870
                                              try exact absurd H (by decide)
                                              all_goals (have HTR := Aside0.mk (Option.some.inj H))
                                              all_goals (go_wp2_with (first | ((with_reducible refine gate_callee (f := 43) rfl ?_); refine goesL_ (some 167) rfl rfl Tryd.func43 (by kernel_rfl) rfl #[.slice A2 l2.length c2, .slice A3 l3.length c3] rfl (by (try simp only [List.map_toArray, List.map_cons, List.map_nil]); first | done | rfl | (simp only [List.length_drop, List.length_take]; rfl)) ?_; (with_reducible refine (letterbagref18_Through.calls kj78 _ _ l2 _ _ l3 t511 true _ ?side1 ?side2 ?side3 ?side4 A82.out).mono ?_); (case side1 => repeat (first | exact (Kd.C_below HR2.out HB.out) | (with_reducible refine Kd.C_alloc ?_ _) | (with_reducible refine Kd.C_drewN ?_ _) | (with_reducible refine Kd.C_drew ?_))); (case side2 => exact HC2.out); (case side3 => repeat (first | exact (Kd.C_below HR3.out HB.out) | (with_reducible refine Kd.C_alloc ?_ _) | (with_reducible refine Kd.C_drewN ?_ _) | (with_reducible refine Kd.C_drew ?_))); (case side4 => exact HC3.out); rintro e w88 ⟨v513, rfl, ho0, hb⟩; refine ⟨_, rfl, ?_⟩; have n0_ := Aside0.mk (Kd.R_elder' (by (with_reducible repeat (first | apply Kd.R_alloc | apply Kd.R_drewN | apply Kd.R_drew)); exact HO_16.out) (Kd.R_base ho0) hb); have n1_ := Aside0.mk (Kd.R_lower (Kd.R_new' ho0 (Kd.R_lt (by (with_reducible repeat (first | apply Kd.R_alloc | apply Kd.R_drewN | apply Kd.R_drew)); exact HO_16.out))) (below_size (by repeat (first | (with_reducible first | exact HB.out | apply below_alloc | apply pw_below_drewN | apply below_drew1) | exact HB.out)))); have n2_ := Aside0.mk (below_step (by repeat (first | (with_reducible first | exact HB.out | apply below_alloc | apply pw_below_drewN | apply below_drew1) | exact HB.out)) hb); clear HO_16; clear HB; have HO_16 := n0_; have HO514 := n1_; have HB := n2_; clear n0_ n1_ n2_; (try clear hb); (try clear hb2); (try clear hk); (try clear hi); (try clear ho0); obtain ⟨Ao89, co89, eo89⟩ := Kd.R_slice HO_16.out; subst eo89; obtain ⟨Ao90, co90, eo90⟩ := Kd.R_slice HO514.out; subst eo90) | (go_at_call 21; (with_reducible refine (letterbagkit_SameBytes.calls kj78 _ _ t491 _ _ t511 true _ ?side1 ?side2 ?side3 ?side4 A85.out).mono ?_); (case side1 => repeat (first | exact (Kd.R_reads' HO_16.out).2.2 | (with_reducible refine Kd.C_alloc ?_ _) | (with_reducible refine Kd.C_drewN ?_ _) | (with_reducible refine Kd.C_drew ?_))); (case side2 => exact (Kd.R_reads' HO_16.out).2.1); (case side3 => repeat (first | exact (Kd.R_reads' HO514.out).2.2 | (with_reducible refine Kd.C_alloc ?_ _) | (with_reducible refine Kd.C_drewN ?_ _) | (with_reducible refine Kd.C_drew ?_))); (case side4 => exact (Kd.R_reads' HO514.out).2.1); rintro e w' ⟨rfl, ⟨nd, rfl⟩⟩) | (go_at_call 11; (with_reducible refine (letterbaglaw18_awake.calls  t516 _ ?side1 A87.out).mono ?_); (case side1 => repeat (first | exact (Kd.C_below HRT.out (by repeat (first | (with_reducible first | exact HB.out | apply below_alloc | apply pw_below_drewN | apply below_drew1) | exact HB.out))) | (with_reducible refine Kd.C_alloc ?_ _) | (with_reducible refine Kd.C_drewN ?_ _) | (with_reducible refine Kd.C_drew ?_))); rintro e w91 ⟨rfl, hb⟩; have n0_ := Aside0.mk (Kd.R_below (by (with_reducible repeat (first | apply Kd.R_alloc | apply Kd.R_drewN | apply Kd.R_drew)); exact HO_16.out) hb); have n1_ := Aside0.mk (Kd.R_below (by (with_reducible repeat (first | apply Kd.R_alloc | apply Kd.R_drewN | apply Kd.R_drew)); exact HO514.out) hb); have n2_ := Aside0.mk (below_step (by repeat (first | (with_reducible first | exact HB.out | apply below_alloc | apply pw_below_drewN | apply below_drew1) | exact HB.out)) hb); clear HO_16; clear HO514; clear HB; have HO_16 := n0_; have HO514 := n1_; have HB := n2_; clear n0_ n1_ n2_; (try clear hb); (try clear hb2); (try clear hk); (try clear hi))))
                                              all_goals (go_ret)
                                              all_goals (exact ⟨by first | rfl | (rw [HTR.out]; rfl) | (simp [errW_none, errW_some] <;> rfl) | (simp [*, errW_none, errW_some] <;> rfl), by repeat (first | (with_reducible first | exact HB.out | apply below_alloc | apply pw_below_drewN | apply below_drew1) | exact HB.out)⟩)
                                            · replace c86 := Bool.eq_false_iff.mpr c86
                                              subst c86
                                              have H1 : (some false) = some true := by rw [if_neg (show ¬ (false = true) by decide)] at H; exact H
                                              exact absurd H1 (by decide)
                                          · rw [if_neg c84] at H
                                            have c84b0 : (t494 == 0) = false := beq_eq_false_iff_ne.mpr c84
                                            have c84b1 : (t494 != 0) = true := bne_iff_ne.mpr c84
                                            try exact absurd H (by decide)
                                            all_goals (have HTR := Aside0.mk (Option.some.inj H))
                                            all_goals (go_wp2_with (first | ((with_reducible refine gate_callee (f := 43) rfl ?_); refine goesL_ (some 167) rfl rfl Tryd.func43 (by kernel_rfl) rfl #[.slice A2 l2.length c2, .slice A3 l3.length c3] rfl (by (try simp only [List.map_toArray, List.map_cons, List.map_nil]); first | done | rfl | (simp only [List.length_drop, List.length_take]; rfl)) ?_; (with_reducible refine (letterbagref18_Through.calls kj78 _ _ l2 _ _ l3 t511 true _ ?side1 ?side2 ?side3 ?side4 A82.out).mono ?_); (case side1 => repeat (first | exact (Kd.C_below HR2.out HB.out) | (with_reducible refine Kd.C_alloc ?_ _) | (with_reducible refine Kd.C_drewN ?_ _) | (with_reducible refine Kd.C_drew ?_))); (case side2 => exact HC2.out); (case side3 => repeat (first | exact (Kd.C_below HR3.out HB.out) | (with_reducible refine Kd.C_alloc ?_ _) | (with_reducible refine Kd.C_drewN ?_ _) | (with_reducible refine Kd.C_drew ?_))); (case side4 => exact HC3.out); rintro e w95 ⟨v513, rfl, ho0, hb⟩; refine ⟨_, rfl, ?_⟩; have n0_ := Aside0.mk (Kd.R_elder' (by (with_reducible repeat (first | apply Kd.R_alloc | apply Kd.R_drewN | apply Kd.R_drew)); exact HO_16.out) (Kd.R_base ho0) hb); have n1_ := Aside0.mk (Kd.R_lower (Kd.R_new' ho0 (Kd.R_lt (by (with_reducible repeat (first | apply Kd.R_alloc | apply Kd.R_drewN | apply Kd.R_drew)); exact HO_16.out))) (below_size (by repeat (first | (with_reducible first | exact HB.out | apply below_alloc | apply pw_below_drewN | apply below_drew1) | exact HB.out)))); have n2_ := Aside0.mk (below_step (by repeat (first | (with_reducible first | exact HB.out | apply below_alloc | apply pw_below_drewN | apply below_drew1) | exact HB.out)) hb); clear HO_16; clear HB; have HO_16 := n0_; have HO514 := n1_; have HB := n2_; clear n0_ n1_ n2_; (try clear hb); (try clear hb2); (try clear hk); (try clear hi); (try clear ho0))))
                                            all_goals (go_ret)
                                            all_goals (exact ⟨by first | rfl | (rw [HTR.out]; rfl) | (simp [errW_none, errW_some] <;> rfl) | (simp [*, errW_none, errW_some] <;> rfl), by repeat (first | (with_reducible first | exact HB.out | apply below_alloc | apply pw_below_drewN | apply below_drew1) | exact HB.out)⟩)
                                        · replace c83 := Bool.eq_false_iff.mpr c83
                                          subst c83
                                          have H1 : (if t494 = 2 then (if (t491.length : Int) = 0 then ((letterbaglaw18_awake.f).bind fun t517 => (some t517)) else (some false)) else (some false)) = some true := by rw [if_neg (show ¬ (false = true) by decide)] at H; exact H
                                          clear H
                                          have H := H1
                                          clear H1
                                          by_cases c96 : t494 = 2
                                          · rw [if_pos c96] at H
                                            have c96b0 : (t494 == 2) = true := beq_iff_eq.mpr c96
                                            have c96b1 : (t494 != 2) = false := bne_eq_false_iff_eq.mpr c96
                                            clear c96
                                            by_cases c97 : (t491.length : Int) = 0
                                            · rw [if_pos c97] at H
                                              have c97b0 : ((t491.length : Int) == 0) = true := beq_iff_eq.mpr c97
                                              have c97b1 : ((t491.length : Int) != 0) = false := bne_eq_false_iff_eq.mpr c97
                                              clear c97
                                              replace H := Option.bind_eq_some_iff.mp H
                                              obtain ⟨t517, A980, H⟩ := H
                                              replace H : (some t517) = some true := H
                                              have A98 := Aside0.mk A980
                                              clear A980
                                              try exact absurd H (by decide)
                                              all_goals (have HTR := Aside0.mk (Option.some.inj H))
                                              all_goals (go_wp2_with (first | ((with_reducible refine gate_callee (f := 43) rfl ?_); refine goesL_ (some 167) rfl rfl Tryd.func43 (by kernel_rfl) rfl #[.slice A2 l2.length c2, .slice A3 l3.length c3] rfl (by (try simp only [List.map_toArray, List.map_cons, List.map_nil]); first | done | rfl | (simp only [List.length_drop, List.length_take]; rfl)) ?_; (with_reducible refine (letterbagref18_Through.calls kj78 _ _ l2 _ _ l3 t511 false _ ?side1 ?side2 ?side3 ?side4 A82.out).mono ?_); (case side1 => repeat (first | exact (Kd.C_below HR2.out HB.out) | (with_reducible refine Kd.C_alloc ?_ _) | (with_reducible refine Kd.C_drewN ?_ _) | (with_reducible refine Kd.C_drew ?_))); (case side2 => exact HC2.out); (case side3 => repeat (first | exact (Kd.C_below HR3.out HB.out) | (with_reducible refine Kd.C_alloc ?_ _) | (with_reducible refine Kd.C_drewN ?_ _) | (with_reducible refine Kd.C_drew ?_))); (case side4 => exact HC3.out); rintro e w99 ⟨v513, rfl, ho0, hb⟩; refine ⟨_, rfl, ?_⟩; have n0_ := Aside0.mk (Kd.R_elder' (by (with_reducible repeat (first | apply Kd.R_alloc | apply Kd.R_drewN | apply Kd.R_drew)); exact HO_16.out) (Kd.R_base ho0) hb); have n1_ := Aside0.mk (Kd.R_lower (Kd.R_new' ho0 (Kd.R_lt (by (with_reducible repeat (first | apply Kd.R_alloc | apply Kd.R_drewN | apply Kd.R_drew)); exact HO_16.out))) (below_size (by repeat (first | (with_reducible first | exact HB.out | apply below_alloc | apply pw_below_drewN | apply below_drew1) | exact HB.out)))); have n2_ := Aside0.mk (below_step (by repeat (first | (with_reducible first | exact HB.out | apply below_alloc | apply pw_below_drewN | apply below_drew1) | exact HB.out)) hb); clear HO_16; clear HB; have HO_16 := n0_; have HO514 := n1_; have HB := n2_; clear n0_ n1_ n2_; (try clear hb); (try clear hb2); (try clear hk); (try clear hi); (try clear ho0); obtain ⟨Ao100, co100, eo100⟩ := Kd.R_slice HO_16.out; subst eo100) | (go_at_call 11; (with_reducible refine (letterbaglaw18_awake.calls  t517 _ ?side1 A98.out).mono ?_); (case side1 => repeat (first | exact (Kd.C_below HRT.out HB.out) | (with_reducible refine Kd.C_alloc ?_ _) | (with_reducible refine Kd.C_drewN ?_ _) | (with_reducible refine Kd.C_drew ?_))); rintro e w101 ⟨rfl, hb⟩; have n0_ := Aside0.mk (Kd.R_below (by (with_reducible repeat (first | apply Kd.R_alloc | apply Kd.R_drewN | apply Kd.R_drew)); exact HO_16.out) hb); have n1_ := Aside0.mk (Kd.R_below (by (with_reducible repeat (first | apply Kd.R_alloc | apply Kd.R_drewN | apply Kd.R_drew)); exact HO514.out) hb); have n2_ := Aside0.mk (below_step (by repeat (first | (with_reducible first | exact HB.out | apply below_alloc | apply pw_below_drewN | apply below_drew1) | exact HB.out)) hb); clear HO_16; clear HO514; clear HB; have HO_16 := n0_; have HO514 := n1_; have HB := n2_; clear n0_ n1_ n2_; (try clear hb); (try clear hb2); (try clear hk); (try clear hi))))
                                              all_goals (go_ret)
                                              all_goals (exact ⟨by first | rfl | (rw [HTR.out]; rfl) | (simp [errW_none, errW_some] <;> rfl) | (simp [*, errW_none, errW_some] <;> rfl), by repeat (first | (with_reducible first | exact HB.out | apply below_alloc | apply pw_below_drewN | apply below_drew1) | exact HB.out)⟩)
                                            · rw [if_neg c97] at H
                                              have c97b0 : ((t491.length : Int) == 0) = false := beq_eq_false_iff_ne.mpr c97
                                              have c97b1 : ((t491.length : Int) != 0) = true := bne_iff_ne.mpr c97
                                              have c97b2 : ¬ (t491 = []) := fun h_ => c97 (by rw [h_]; rfl)
                                              try exact absurd H (by decide)
                                              all_goals (have HTR := Aside0.mk (Option.some.inj H))
                                              all_goals (go_wp2_with (first | ((with_reducible refine gate_callee (f := 43) rfl ?_); refine goesL_ (some 167) rfl rfl Tryd.func43 (by kernel_rfl) rfl #[.slice A2 l2.length c2, .slice A3 l3.length c3] rfl (by (try simp only [List.map_toArray, List.map_cons, List.map_nil]); first | done | rfl | (simp only [List.length_drop, List.length_take]; rfl)) ?_; (with_reducible refine (letterbagref18_Through.calls kj78 _ _ l2 _ _ l3 t511 false _ ?side1 ?side2 ?side3 ?side4 A82.out).mono ?_); (case side1 => repeat (first | exact (Kd.C_below HR2.out HB.out) | (with_reducible refine Kd.C_alloc ?_ _) | (with_reducible refine Kd.C_drewN ?_ _) | (with_reducible refine Kd.C_drew ?_))); (case side2 => exact HC2.out); (case side3 => repeat (first | exact (Kd.C_below HR3.out HB.out) | (with_reducible refine Kd.C_alloc ?_ _) | (with_reducible refine Kd.C_drewN ?_ _) | (with_reducible refine Kd.C_drew ?_))); (case side4 => exact HC3.out); rintro e w102 ⟨v513, rfl, ho0, hb⟩; refine ⟨_, rfl, ?_⟩; have n0_ := Aside0.mk (Kd.R_elder' (by (with_reducible repeat (first | apply Kd.R_alloc | apply Kd.R_drewN | apply Kd.R_drew)); exact HO_16.out) (Kd.R_base ho0) hb); have n1_ := Aside0.mk (Kd.R_lower (Kd.R_new' ho0 (Kd.R_lt (by (with_reducible repeat (first | apply Kd.R_alloc | apply Kd.R_drewN | apply Kd.R_drew)); exact HO_16.out))) (below_size (by repeat (first | (with_reducible first | exact HB.out | apply below_alloc | apply pw_below_drewN | apply below_drew1) | exact HB.out)))); have n2_ := Aside0.mk (below_step (by repeat (first | (with_reducible first | exact HB.out | apply below_alloc | apply pw_below_drewN | apply below_drew1) | exact HB.out)) hb); clear HO_16; clear HB; have HO_16 := n0_; have HO514 := n1_; have HB := n2_; clear n0_ n1_ n2_; (try clear hb); (try clear hb2); (try clear hk); (try clear hi); (try clear ho0); obtain ⟨Ao103, co103, eo103⟩ := Kd.R_slice HO_16.out; subst eo103)))
                                              all_goals (go_ret)
                                              all_goals (exact ⟨by first | rfl | (rw [HTR.out]; rfl) | (simp [errW_none, errW_some] <;> rfl) | (simp [*, errW_none, errW_some] <;> rfl), by repeat (first | (with_reducible first | exact HB.out | apply below_alloc | apply pw_below_drewN | apply below_drew1) | exact HB.out)⟩)
                                          · rw [if_neg c96] at H
                                            have c96b0 : (t494 == 2) = false := beq_eq_false_iff_ne.mpr c96
                                            have c96b1 : (t494 != 2) = true := bne_iff_ne.mpr c96
                                            try exact absurd H (by decide)
                                            all_goals (have HTR := Aside0.mk (Option.some.inj H))
                                            all_goals (go_wp2_with (first | ((with_reducible refine gate_callee (f := 43) rfl ?_); refine goesL_ (some 167) rfl rfl Tryd.func43 (by kernel_rfl) rfl #[.slice A2 l2.length c2, .slice A3 l3.length c3] rfl (by (try simp only [List.map_toArray, List.map_cons, List.map_nil]); first | done | rfl | (simp only [List.length_drop, List.length_take]; rfl)) ?_; (with_reducible refine (letterbagref18_Through.calls kj78 _ _ l2 _ _ l3 t511 false _ ?side1 ?side2 ?side3 ?side4 A82.out).mono ?_); (case side1 => repeat (first | exact (Kd.C_below HR2.out HB.out) | (with_reducible refine Kd.C_alloc ?_ _) | (with_reducible refine Kd.C_drewN ?_ _) | (with_reducible refine Kd.C_drew ?_))); (case side2 => exact HC2.out); (case side3 => repeat (first | exact (Kd.C_below HR3.out HB.out) | (with_reducible refine Kd.C_alloc ?_ _) | (with_reducible refine Kd.C_drewN ?_ _) | (with_reducible refine Kd.C_drew ?_))); (case side4 => exact HC3.out); rintro e w104 ⟨v513, rfl, ho0, hb⟩; refine ⟨_, rfl, ?_⟩; have n0_ := Aside0.mk (Kd.R_elder' (by (with_reducible repeat (first | apply Kd.R_alloc | apply Kd.R_drewN | apply Kd.R_drew)); exact HO_16.out) (Kd.R_base ho0) hb); have n1_ := Aside0.mk (Kd.R_lower (Kd.R_new' ho0 (Kd.R_lt (by (with_reducible repeat (first | apply Kd.R_alloc | apply Kd.R_drewN | apply Kd.R_drew)); exact HO_16.out))) (below_size (by repeat (first | (with_reducible first | exact HB.out | apply below_alloc | apply pw_below_drewN | apply below_drew1) | exact HB.out)))); have n2_ := Aside0.mk (below_step (by repeat (first | (with_reducible first | exact HB.out | apply below_alloc | apply pw_below_drewN | apply below_drew1) | exact HB.out)) hb); clear HO_16; clear HB; have HO_16 := n0_; have HO514 := n1_; have HB := n2_; clear n0_ n1_ n2_; (try clear hb); (try clear hb2); (try clear hk); (try clear hi); (try clear ho0))))
                                            all_goals (go_ret)
                                            all_goals (exact ⟨by first | rfl | (rw [HTR.out]; rfl) | (simp [errW_none, errW_some] <;> rfl) | (simp [*, errW_none, errW_some] <;> rfl), by repeat (first | (with_reducible first | exact HB.out | apply below_alloc | apply pw_below_drewN | apply below_drew1) | exact HB.out)⟩)
                                      · rw [if_neg c81] at H
                                        have c81b0 : (x20_78 == 0) = false := beq_eq_false_iff_ne.mpr c81
                                        have c81b1 : (x20_78 != 0) = true := bne_iff_ne.mpr c81
                                        by_cases c105 : t494 = x20_78
                                        · rw [if_pos c105] at H
                                          have c105b0 : (t494 == x20_78) = true := beq_iff_eq.mpr c105
                                          have c105b1 : (t494 != x20_78) = false := bne_eq_false_iff_eq.mpr c105
                                          clear c105
                                          by_cases c106 : (t491.length : Int) = 0
                                          · rw [if_pos c106] at H
                                            have c106b0 : ((t491.length : Int) == 0) = true := beq_iff_eq.mpr c106
                                            have c106b1 : ((t491.length : Int) != 0) = false := bne_eq_false_iff_eq.mpr c106
                                            clear c106
                                            replace H := Option.bind_eq_some_iff.mp H
                                            obtain ⟨t510, A1070, H⟩ := H
                                            replace H : (some t510) = some true := H
                                            have A107 := Aside0.mk A1070
                                            clear A1070
                                            try exact absurd H (by decide)
                                            all_goals (have HTR := Aside0.mk (Option.some.inj H))
                                            all_goals (obtain ⟨Ao108, co108, eo108⟩ := Kd.R_slice HO_16.out)
                                            all_goals (subst eo108)
                                            all_goals (go_wp2_with (first | (go_at_call 11; (with_reducible refine (letterbaglaw18_awake.calls  t510 _ ?side1 A107.out).mono ?_); (case side1 => repeat (first | exact (Kd.C_below HRT.out HB.out) | (with_reducible refine Kd.C_alloc ?_ _) | (with_reducible refine Kd.C_drewN ?_ _) | (with_reducible refine Kd.C_drew ?_))); rintro e w109 ⟨rfl, hb⟩; have n0_ := Aside0.mk (Kd.R_below (by (with_reducible repeat (first | apply Kd.R_alloc | apply Kd.R_drewN | apply Kd.R_drew)); exact HO_16.out) hb); have n1_ := Aside0.mk (below_step (by repeat (first | (with_reducible first | exact HB.out | apply below_alloc | apply pw_below_drewN | apply below_drew1) | exact HB.out)) hb); clear HO_16; clear HB; have HO_16 := n0_; have HB := n1_; clear n0_ n1_; (try clear hb); (try clear hb2); (try clear hk); (try clear hi))))
                                            all_goals (go_ret)
                                            all_goals (exact ⟨by first | rfl | (rw [HTR.out]; rfl) | (simp [errW_none, errW_some] <;> rfl) | (simp [*, errW_none, errW_some] <;> rfl), by repeat (first | (with_reducible first | exact HB.out | apply below_alloc | apply pw_below_drewN | apply below_drew1) | exact HB.out)⟩)
                                          · rw [if_neg c106] at H
                                            have c106b0 : ((t491.length : Int) == 0) = false := beq_eq_false_iff_ne.mpr c106
                                            have c106b1 : ((t491.length : Int) != 0) = true := bne_iff_ne.mpr c106
                                            have c106b2 : ¬ (t491 = []) := fun h_ => c106 (by rw [h_]; rfl)
                                            try exact absurd H (by decide)
                                            all_goals (have HTR := Aside0.mk (Option.some.inj H))
                                            all_goals (obtain ⟨Ao110, co110, eo110⟩ := Kd.R_slice HO_16.out)
                                            all_goals (subst eo110)
                                            all_goals (go_wp2)
                                            all_goals (go_ret)
                                            all_goals (exact ⟨by first | rfl | (rw [HTR.out]; rfl) | (simp [errW_none, errW_some] <;> rfl) | (simp [*, errW_none, errW_some] <;> rfl), by repeat (first | (with_reducible first | exact HB.out | apply below_alloc | apply pw_below_drewN | apply below_drew1) | exact HB.out)⟩)
                                        · rw [if_neg c105] at H
                                          have c105b0 : (t494 == x20_78) = false := beq_eq_false_iff_ne.mpr c105
                                          have c105b1 : (t494 != x20_78) = true := bne_iff_ne.mpr c105
                                          try exact absurd H (by decide)
                                          all_goals (have HTR := Aside0.mk (Option.some.inj H))
                                          all_goals (go_wp2)
                                          all_goals (go_ret)
                                          all_goals (exact ⟨by first | rfl | (rw [HTR.out]; rfl) | (simp [errW_none, errW_some] <;> rfl) | (simp [*, errW_none, errW_some] <;> rfl), by repeat (first | (with_reducible first | exact HB.out | apply below_alloc | apply pw_below_drewN | apply below_drew1) | exact HB.out)⟩)
theorem letterbaglaw18_FieldValues.walk (P : letterbaglaw18_FieldValues.Pure) (a0 : Option Addr) (len0 cap0 : Nat) (z0 : List Int) (a1 : Int) (a2 : Option Addr) (len2 cap2 : Nat) (z2 : List Int) (a3 : Option Addr) (len3 cap3 : Nat) (z3 : List Int) (w : World) (w0 : (a0 = none ∧ len0 = 0 ∧ cap0 = 0 ∧ z0 = []) ∨ ∃ x, a0 = some x ∧ len0 ≤ cap0 ∧ cap0 ≤ maxLen ∧ z0.length = cap0 ∧ (∀ i, i < z0.length → w.cell? (x.add i) = some (.int .u8 (z0.getD i 0))) ∧ ∀ n ∈ z0, (Lit.int .u8 n).wf = true) (y0 : len0 * 1 ≤ 140737488351232) (w1 : (Lit.int .u8 a1).wf = true) (w2 : (a2 = none ∧ len2 = 0 ∧ cap2 = 0 ∧ z2 = []) ∨ ∃ x, a2 = some x ∧ len2 ≤ cap2 ∧ cap2 ≤ maxLen ∧ z2.length = cap2 ∧ (∀ i, i < z2.length → w.cell? (x.add i) = some (.int .u8 (z2.getD i 0))) ∧ ∀ n ∈ z2, (Lit.int .u8 n).wf = true) (y2 : len2 * 1 ≤ 140737488351232) (w3 : (a3 = none ∧ len3 = 0 ∧ cap3 = 0 ∧ z3 = []) ∨ ∃ x, a3 = some x ∧ len3 ≤ cap3 ∧ cap3 ≤ maxLen ∧ z3.length = cap3 ∧ (∀ i, i < z3.length → w.cell? (x.add i) = some (.int .u8 (z3.getD i 0))) ∧ ∀ n ∈ z3, (Lit.int .u8 n).wf = true) (y3 : len3 * 1 ≤ 140737488351232) (hT : Kd.C (Kd.int .u8) w (some ⟨0, 0, none⟩) 63 pwI) :
    Calls Tryd.prog 7 #[.slice a0 len0 cap0, .int .u8 a1, .slice a2 len2 cap2, .slice a3 len3 cap3] w fun e w' => e = .returned (.bool true) ∧ Below w.heap.size w w' := by
  obtain ⟨l0, rfl, hr0, hm0, hw0, hc0⟩ := ReadsInt.ofRowC w0
  obtain ⟨l2, rfl, hr2, hm2, hw2, hc2⟩ := ReadsInt.ofRowC w2
  obtain ⟨l3, rfl, hr3, hm3, hw3, hc3⟩ := ReadsInt.ofRowC w3
  obtain ⟨k, h⟩ := P l0 a1 l2 l3 hm0 y0 hw0 w1 hm2 y2 hw2 hm3 y3 hw3
  refine (letterbaglaw18_FieldValues.calls k _ _ l0 a1 _ _ l2 _ _ l3 w (Kd.C_of_reads (d := (0 : Int)) (h1 := fun _ => rfl) hr0) hc0 (Kd.C_of_reads (d := (0 : Int)) (h1 := fun _ => rfl) hr2) hc2 (Kd.C_of_reads (d := (0 : Int)) (h1 := fun _ => rfl) hr3) hc3 hT h).mono ?_
  rintro e w' ⟨rfl, hd⟩
  exact ⟨rfl, hd⟩
end Go.Proofs.YtehgfpfmpkmdmaaDoor.Print
