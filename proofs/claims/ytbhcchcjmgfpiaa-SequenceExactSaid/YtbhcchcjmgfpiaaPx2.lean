/- SequenceExact's walk (printed, squeezed). -/
import Derived.Test.YtbhcchcjmgfpiaaPxd
import Derived.Test.YtbhcchcjmgfpiaaPrint0
import Derived.Test.YtbhcchcjmgfpiaaGSq
import Derived.Test.YtbhcchcjmgfpiaaWRepsOne
import Derived.Test.YtbhcchcjmgfpiaaPrint13
import Derived.Test.YtbhcchcjmgfpiaaPrint22
import Derived.Test.YtbhcchcjmgfpiaaPrint23
import Derived.Test.YtbhcchcjmgfpiaaPrint25
import Derived.Test.YtbhcchcjmgfpiaaGd
import Derived.Test.YtbhcchcjmgfpiaaGe
import Derived.Test.YtbhcchcjmgfpiaaGs
import Derived.Test.YtbhcchcjmgfpiaaGw
namespace Go.Proofs.Ytbhcchcjmgfpiaa.Print
open Go.RowKit Go.Proofs.YtbhcchcjmgfpiaaW.PrintWords Go.Proofs.YtbhcchcjmgfpiaaW.PrintLast Go.Proofs.YtbhcchcjmgfpiaaW.PrintMore
attribute [local go_sem] max2_int min2_int max_two min_two max_three min_three max_four min_four   -- for this text's walks alone
set_option linter.unusedVariables false
set_option linter.unusedSimpArgs false

set_option maxHeartbeats 8000000 in
set_option maxRecDepth 100000 in
theorem letterbaglaw28_SequenceExact.calls (k : Nat) (A0 : Option Addr) (c0 : Nat) (l0 : List Int) (A1 : Option Addr) (c1 : Nat) (l1 : List Int) (A2 : Option Addr) (c2 : Nat) (l2 : List Int) (r : Bool) (w : World) (hr0 : Kd.C (Kd.int .u8) w A0 l0.length l0) (hc0 : l0.length ≤ c0) (hr1 : Kd.C (Kd.int .u8) w A1 l1.length l1) (hc1 : l1.length ≤ c1) (hr2 : Kd.C (Kd.int .u8) w A2 l2.length l2) (hc2 : l2.length ≤ c2) (h : letterbaglaw28_SequenceExact.f k l0 l1 l2 = some r) :
    Calls Try.prog 4 #[.slice A0 l0.length c0, .slice A1 l1.length c1, .slice A2 l2.length c2] w fun e w' => e = .returned (.bool r) ∧ Below w.heap.size w w' := by
 have hu38 := Try.underlying38; have hu50 := Try.underlying50
 have HR0 := Aside0.mk hr0
 have HC0 := Aside0.mk hc0
 clear hr0 hc0
 have HR1 := Aside0.mk hr1
 have HC1 := Aside0.mk hc1
 clear hr1 hc1
 have HR2 := Aside0.mk hr2
 have HC2 := Aside0.mk hc2
 clear hr2 hc2
 have HB := Aside0.mk (Below.refl w.heap.size w)
 have H : ((letterbaglaw28_awake.f).bind fun t314 => (if t314 = true then ((letterbaglaw28_route.f k l0 9).bind fun t315 => ((letterbaglaw28_machine.f k l1).bind fun t318 => ((sequence_Make.f t315 t318).bind fun bt321 => (if bt321.2.2.2.2 = 0 then (if (bt321.2.1.length : Int) = (t315.length : Int) then (if (bt321.2.2.1.length : Int) = (t318.length : Int) then (if (bt321.2.2.2.1.length : Int) = (t318.length : Int) then ((letterbagkit_SameInts.f k bt321.1 t318).bind fun t335 => (letterbaglaw28_SequenceExact.j0 k l2 t315 t318 (!t335) bt321.1 bt321.2.1 bt321.2.2.1 bt321.2.2.2.1)) else (letterbaglaw28_SequenceExact.j0 k l2 t315 t318 true bt321.1 bt321.2.1 bt321.2.2.1 bt321.2.2.2.1)) else (letterbaglaw28_SequenceExact.j0 k l2 t315 t318 true bt321.1 bt321.2.1 bt321.2.2.1 bt321.2.2.2.1)) else (letterbaglaw28_SequenceExact.j0 k l2 t315 t318 true bt321.1 bt321.2.1 bt321.2.2.1 bt321.2.2.2.1)) else (if bt321.2.2.2.2 = 4 then (some ((bt321.2.1.length : Int) == 0)) else (some false)))))) else (some false))) = some r := h
 clear h
 replace H := Option.bind_eq_some_iff.mp H
 obtain ⟨t314, A40, H⟩ := H
 replace H : (if t314 = true then ((letterbaglaw28_route.f k l0 9).bind fun t315 => ((letterbaglaw28_machine.f k l1).bind fun t318 => ((sequence_Make.f t315 t318).bind fun bt321 => (if bt321.2.2.2.2 = 0 then (if (bt321.2.1.length : Int) = (t315.length : Int) then (if (bt321.2.2.1.length : Int) = (t318.length : Int) then (if (bt321.2.2.2.1.length : Int) = (t318.length : Int) then ((letterbagkit_SameInts.f k bt321.1 t318).bind fun t335 => (letterbaglaw28_SequenceExact.j0 k l2 t315 t318 (!t335) bt321.1 bt321.2.1 bt321.2.2.1 bt321.2.2.2.1)) else (letterbaglaw28_SequenceExact.j0 k l2 t315 t318 true bt321.1 bt321.2.1 bt321.2.2.1 bt321.2.2.2.1)) else (letterbaglaw28_SequenceExact.j0 k l2 t315 t318 true bt321.1 bt321.2.1 bt321.2.2.1 bt321.2.2.2.1)) else (letterbaglaw28_SequenceExact.j0 k l2 t315 t318 true bt321.1 bt321.2.1 bt321.2.2.1 bt321.2.2.2.1)) else (if bt321.2.2.2.2 = 4 then (some ((bt321.2.1.length : Int) == 0)) else (some false)))))) else (some false)) = some r := H
 have A4 := Aside0.mk A40
 clear A40
 by_cases c5 : t314 = true
 rotate_left
 ·replace c5 := Bool.eq_false_iff.mpr c5
  subst c5
  have H1 : (some false) = some r := by rw [if_neg (show ¬ (false = true) by decide)] at H; exact H
  clear H; have H := H1; clear H1
  obtain rfl := Option.some.inj H
  go_enter Try.func4, Try.ntmps4
  go_wp2_with (first | (go_at_call 18; (with_reducible refine (letterbaglaw28_awake.calls  false _ A4.out).mono ?_); rintro e w136 ⟨rfl, hb⟩; have n0_ := Aside0.mk (below_step (by repeat (first | (with_reducible first | exact HB.out | apply below_alloc | apply pw_below_drewN | apply below_drew1) | exact HB.out)) hb); clear HB; have HB := n0_; clear n0_; (try clear hb); (try clear hb2); (try clear hk); (try clear hi)))
  go_ret
  exact ⟨by first | rfl | (simp [errW_none, errW_some] <;> rfl) | (simp [*, errW_none, errW_some] <;> rfl), by repeat (first | (with_reducible first | exact HB.out | apply below_alloc | apply pw_below_drewN | apply below_drew1) | exact HB.out)⟩
 subst c5
 have H1 : ((letterbaglaw28_route.f k l0 9).bind fun t315 => ((letterbaglaw28_machine.f k l1).bind fun t318 => ((sequence_Make.f t315 t318).bind fun bt321 => (if bt321.2.2.2.2 = 0 then (if (bt321.2.1.length : Int) = (t315.length : Int) then (if (bt321.2.2.1.length : Int) = (t318.length : Int) then (if (bt321.2.2.2.1.length : Int) = (t318.length : Int) then ((letterbagkit_SameInts.f k bt321.1 t318).bind fun t335 => (letterbaglaw28_SequenceExact.j0 k l2 t315 t318 (!t335) bt321.1 bt321.2.1 bt321.2.2.1 bt321.2.2.2.1)) else (letterbaglaw28_SequenceExact.j0 k l2 t315 t318 true bt321.1 bt321.2.1 bt321.2.2.1 bt321.2.2.2.1)) else (letterbaglaw28_SequenceExact.j0 k l2 t315 t318 true bt321.1 bt321.2.1 bt321.2.2.1 bt321.2.2.2.1)) else (letterbaglaw28_SequenceExact.j0 k l2 t315 t318 true bt321.1 bt321.2.1 bt321.2.2.1 bt321.2.2.2.1)) else (if bt321.2.2.2.2 = 4 then (some ((bt321.2.1.length : Int) == 0)) else (some false)))))) = some r := by rw [if_pos rfl] at H; exact H
 clear H; have H := H1; clear H1
 replace H := Option.bind_eq_some_iff.mp H
 obtain ⟨t315, A60, H⟩ := H
 replace H : ((letterbaglaw28_machine.f k l1).bind fun t318 => ((sequence_Make.f t315 t318).bind fun bt321 => (if bt321.2.2.2.2 = 0 then (if (bt321.2.1.length : Int) = (t315.length : Int) then (if (bt321.2.2.1.length : Int) = (t318.length : Int) then (if (bt321.2.2.2.1.length : Int) = (t318.length : Int) then ((letterbagkit_SameInts.f k bt321.1 t318).bind fun t335 => (letterbaglaw28_SequenceExact.j0 k l2 t315 t318 (!t335) bt321.1 bt321.2.1 bt321.2.2.1 bt321.2.2.2.1)) else (letterbaglaw28_SequenceExact.j0 k l2 t315 t318 true bt321.1 bt321.2.1 bt321.2.2.1 bt321.2.2.2.1)) else (letterbaglaw28_SequenceExact.j0 k l2 t315 t318 true bt321.1 bt321.2.1 bt321.2.2.1 bt321.2.2.2.1)) else (letterbaglaw28_SequenceExact.j0 k l2 t315 t318 true bt321.1 bt321.2.1 bt321.2.2.1 bt321.2.2.2.1)) else (if bt321.2.2.2.2 = 4 then (some ((bt321.2.1.length : Int) == 0)) else (some false))))) = some r := H
 have A6 := Aside0.mk A60
 clear A60
 replace H := Option.bind_eq_some_iff.mp H
 obtain ⟨t318, A70, H⟩ := H
 replace H : ((sequence_Make.f t315 t318).bind fun bt321 => (if bt321.2.2.2.2 = 0 then (if (bt321.2.1.length : Int) = (t315.length : Int) then (if (bt321.2.2.1.length : Int) = (t318.length : Int) then (if (bt321.2.2.2.1.length : Int) = (t318.length : Int) then ((letterbagkit_SameInts.f k bt321.1 t318).bind fun t335 => (letterbaglaw28_SequenceExact.j0 k l2 t315 t318 (!t335) bt321.1 bt321.2.1 bt321.2.2.1 bt321.2.2.2.1)) else (letterbaglaw28_SequenceExact.j0 k l2 t315 t318 true bt321.1 bt321.2.1 bt321.2.2.1 bt321.2.2.2.1)) else (letterbaglaw28_SequenceExact.j0 k l2 t315 t318 true bt321.1 bt321.2.1 bt321.2.2.1 bt321.2.2.2.1)) else (letterbaglaw28_SequenceExact.j0 k l2 t315 t318 true bt321.1 bt321.2.1 bt321.2.2.1 bt321.2.2.2.1)) else (if bt321.2.2.2.2 = 4 then (some ((bt321.2.1.length : Int) == 0)) else (some false)))) = some r := H
 have A7 := Aside0.mk A70
 clear A70
 replace H := Option.bind_eq_some_iff.mp H
 obtain ⟨⟨t321, t324, t327, t330, t333⟩, A80, H⟩ := H
 replace H : (if t333 = 0 then (if (t324.length : Int) = (t315.length : Int) then (if (t327.length : Int) = (t318.length : Int) then (if (t330.length : Int) = (t318.length : Int) then ((letterbagkit_SameInts.f k t321 t318).bind fun t335 => (letterbaglaw28_SequenceExact.j0 k l2 t315 t318 (!t335) t321 t324 t327 t330)) else (letterbaglaw28_SequenceExact.j0 k l2 t315 t318 true t321 t324 t327 t330)) else (letterbaglaw28_SequenceExact.j0 k l2 t315 t318 true t321 t324 t327 t330)) else (letterbaglaw28_SequenceExact.j0 k l2 t315 t318 true t321 t324 t327 t330)) else (if t333 = 4 then (some ((t324.length : Int) == 0)) else (some false))) = some r := H
 have A8 := Aside0.mk A80
 clear A80
 by_cases c9 : t333 = 0
 rotate_left
 ·rw [if_neg c9] at H
  have c9b0 : (t333 == 0) = false := beq_eq_false_iff_ne.mpr c9
  have c9b1 : (t333 != 0) = true := bne_iff_ne.mpr c9
  by_cases c111 : t333 = 4
  rotate_left
  ·rw [if_neg c111] at H
   have c111b0 : (t333 == 4) = false := beq_eq_false_iff_ne.mpr c111
   have c111b1 : (t333 != 4) = true := bne_iff_ne.mpr c111
   obtain rfl := Option.some.inj H
   go_enter Try.func4, Try.ntmps4
   go_wp2_with (first | (go_at_call 18; (with_reducible refine (letterbaglaw28_awake.calls  true _ A4.out).mono ?_); rintro e w124 ⟨rfl, hb⟩; have n0_ := Aside0.mk (below_step (by repeat (first | (with_reducible first | exact HB.out | apply below_alloc | apply pw_below_drewN | apply below_drew1) | exact HB.out)) hb); clear HB; have HB := n0_; clear n0_; (try clear hb); (try clear hb2); (try clear hk); (try clear hi)) | (go_at_call 19; (with_reducible refine (letterbaglaw28_route.calls k _ _ l0 9 t315 _ ?side1 ?side2 A6.out).mono ?_); (case side1 => repeat (first | exact (Kd.C_below HR0.out HB.out) | (with_reducible refine Kd.C_alloc ?_ _) | (with_reducible refine Kd.C_drewN ?_ _) | (with_reducible refine Kd.C_drew ?_))); (case side2 => exact HC0.out); rintro e w125 ⟨v316, rfl, ho0, hb⟩; have n0_ := Aside0.mk (Kd.R_lower ho0 (below_size (by repeat (first | (with_reducible first | exact HB.out | apply below_alloc | apply pw_below_drewN | apply below_drew1) | exact HB.out)))); have n1_ := Aside0.mk (below_step (by repeat (first | (with_reducible first | exact HB.out | apply below_alloc | apply pw_below_drewN | apply below_drew1) | exact HB.out)) hb); clear HB; have HO317 := n0_; have HB := n1_; clear n0_ n1_; (try clear hb); (try clear hb2); (try clear hk); (try clear hi); (try clear ho0)) | (go_at_call 20; (with_reducible refine (letterbaglaw28_machine.calls k _ _ l1 t318 _ ?side1 ?side2 A7.out).mono ?_); (case side1 => repeat (first | exact (Kd.C_below HR1.out HB.out) | (with_reducible refine Kd.C_alloc ?_ _) | (with_reducible refine Kd.C_drewN ?_ _) | (with_reducible refine Kd.C_drew ?_))); (case side2 => exact HC1.out); rintro e w126 ⟨v319, rfl, ho0, hb⟩; have n0_ := Aside0.mk (Kd.R_below (by (with_reducible repeat (first | apply Kd.R_alloc | apply Kd.R_drewN | apply Kd.R_drew)); exact HO317.out) hb); have n1_ := Aside0.mk (Kd.R_lower ho0 (below_size (by repeat (first | (with_reducible first | exact HB.out | apply below_alloc | apply pw_below_drewN | apply below_drew1) | exact HB.out)))); have n2_ := Aside0.mk (below_step (by repeat (first | (with_reducible first | exact HB.out | apply below_alloc | apply pw_below_drewN | apply below_drew1) | exact HB.out)) hb); clear HO317; clear HB; have HO317 := n0_; have HO320 := n1_; have HB := n2_; clear n0_ n1_ n2_; (try clear hb); (try clear hb2); (try clear hk); (try clear hi); (try clear ho0); obtain ⟨Ao127, co127, eo127⟩ := Kd.R_slice HO317.out; subst eo127; obtain ⟨Ao128, co128, eo128⟩ := Kd.R_slice HO320.out; subst eo128) | (go_at_call 16; (with_reducible refine (sequence_Make.calls _ _ t315 _ _ t318 t321 t324 t327 t330 t333 _ ?side1 ?side2 ?side3 ?side4 A8.out).mono ?_); (case side1 => repeat (first | exact (Kd.R_reads' HO317.out).2.2 | (with_reducible refine Kd.C_alloc ?_ _) | (with_reducible refine Kd.C_drewN ?_ _) | (with_reducible refine Kd.C_drew ?_))); (case side2 => exact (Kd.R_reads' HO317.out).2.1); (case side3 => repeat (first | exact (Kd.R_reads' HO320.out).2.2 | (with_reducible refine Kd.C_alloc ?_ _) | (with_reducible refine Kd.C_drewN ?_ _) | (with_reducible refine Kd.C_drew ?_))); (case side4 => exact (Kd.R_reads' HO320.out).2.1); rintro e w129 ⟨v322, v325, v328, v331, rfl, ho0, ho1, ho2, ho3, hb⟩; have n0_ := Aside0.mk (Kd.R_below (by (with_reducible repeat (first | apply Kd.R_alloc | apply Kd.R_drewN | apply Kd.R_drew)); exact HO317.out) hb); have n1_ := Aside0.mk (Kd.R_mono (Kd.R_told (Kd.R_told (Kd.R_told (Kd.R_old (by (with_reducible repeat (first | apply Kd.R_alloc | apply Kd.R_drewN | apply Kd.R_drew)); exact HO320.out) hb) (Kd.R_base ho0)) (Kd.R_base ho2)) (Kd.R_base ho3)) (fun _ h_ => h_.1)); have n2_ := Aside0.mk (Kd.R_lower (Kd.R_new' ho0 (Kd.R_lt (by (with_reducible repeat (first | apply Kd.R_alloc | apply Kd.R_drewN | apply Kd.R_drew)); exact HO320.out))) (below_size (by repeat (first | (with_reducible first | exact HB.out | apply below_alloc | apply pw_below_drewN | apply below_drew1) | exact HB.out)))); have n3_ := Aside0.mk (Kd.R_lower ho1 (below_size (by repeat (first | (with_reducible first | exact HB.out | apply below_alloc | apply pw_below_drewN | apply below_drew1) | exact HB.out)))); have n4_ := Aside0.mk (Kd.R_lower (Kd.R_new' ho2 (Kd.R_lt (by (with_reducible repeat (first | apply Kd.R_alloc | apply Kd.R_drewN | apply Kd.R_drew)); exact HO320.out))) (below_size (by repeat (first | (with_reducible first | exact HB.out | apply below_alloc | apply pw_below_drewN | apply below_drew1) | exact HB.out)))); have n5_ := Aside0.mk (Kd.R_lower (Kd.R_new' ho3 (Kd.R_lt (by (with_reducible repeat (first | apply Kd.R_alloc | apply Kd.R_drewN | apply Kd.R_drew)); exact HO320.out))) (below_size (by repeat (first | (with_reducible first | exact HB.out | apply below_alloc | apply pw_below_drewN | apply below_drew1) | exact HB.out)))); have n6_ := Aside0.mk (below_step (by repeat (first | (with_reducible first | exact HB.out | apply below_alloc | apply pw_below_drewN | apply below_drew1) | exact HB.out)) hb); clear HO317; clear HO320; clear HB; have HO317 := n0_; have HO320 := n1_; have HO323 := n2_; have HO326 := n3_; have HO329 := n4_; have HO332 := n5_; have HB := n6_; clear n0_ n1_ n2_ n3_ n4_ n5_ n6_; (try clear hb); (try clear hb2); (try clear hk); (try clear hi); (try clear ho0); (try clear ho1); (try clear ho2); (try clear ho3)) | ((with_reducible refine gate_dst (N := 9) rfl ?_); (try (refine gate_guard (by rfl) ?_; dsimp only)); refine box_event ?hg (N := 9) ?hd (cs := #[.slice none 0 0, .slice none 0 0, .slice none 0 0, .slice none 0 0]) (t := 38) ?hr ?_; (case hd => rfl); (case hg => rfl); (case hr => first | (go_simp; done) | (go_simp; rfl)); intro gb334 hg w130 hbox hb; have n0_ := Aside0.mk (Kd.R_below (by (with_reducible repeat (first | apply Kd.R_alloc | apply Kd.R_drewN | apply Kd.R_drew)); exact HO317.out) hb); have n1_ := Aside0.mk (Kd.R_below (by (with_reducible repeat (first | apply Kd.R_alloc | apply Kd.R_drewN | apply Kd.R_drew)); exact HO320.out) hb); have n2_ := Aside0.mk (Kd.R_below (by (with_reducible repeat (first | apply Kd.R_alloc | apply Kd.R_drewN | apply Kd.R_drew)); exact HO323.out) hb); have n3_ := Aside0.mk (Kd.R_below (by (with_reducible repeat (first | apply Kd.R_alloc | apply Kd.R_drewN | apply Kd.R_drew)); exact HO326.out) hb); have n4_ := Aside0.mk (Kd.R_below (by (with_reducible repeat (first | apply Kd.R_alloc | apply Kd.R_drewN | apply Kd.R_drew)); exact HO329.out) hb); have n5_ := Aside0.mk (Kd.R_below (by (with_reducible repeat (first | apply Kd.R_alloc | apply Kd.R_drewN | apply Kd.R_drew)); exact HO332.out) hb); have n6_ := Aside0.mk (below_step (by repeat (first | (with_reducible first | exact HB.out | apply below_alloc | apply pw_below_drewN | apply below_drew1) | exact HB.out)) hb); have n7_ := Aside0.mk (hbox); have n8_ := Aside0.mk ((by rw [hg]; exact (below_size (by repeat (first | (with_reducible first | exact HB.out | apply below_alloc | apply pw_below_drewN | apply below_drew1) | exact HB.out))) : w.heap.size ≤ gb334)); have n9_ := Aside0.mk ((by rw [hg]; exact (below_size (by repeat (first | (with_reducible first | exact HB.out | apply below_alloc | apply pw_below_drewN | apply below_drew1) | exact HB.out))) : w.heap.size ≤ gb334)); clear HO317; clear HO320; clear HO323; clear HO326; clear HO329; clear HO332; clear HB; have HO317 := n0_; have HO320 := n1_; have HO323 := n2_; have HO326 := n3_; have HO329 := n4_; have HO332 := n5_; have HB := n6_; have BK334 := n7_; have GW334 := n8_; have GE334 := n9_; clear n0_ n1_ n2_ n3_ n4_ n5_ n6_ n7_ n8_ n9_; clear hb hbox hg; obtain ⟨Ao131, co131, eo131⟩ := Kd.R_slice HO323.out; subst eo131; have hcz132_0 : w130.cell? ⟨gb334, 0, none⟩ = some (.slice none 0 0) := (blk_cell BK334.out 0).trans rfl; have hcz132_1 : w130.cell? ⟨gb334, 1, none⟩ = some (.slice none 0 0) := (blk_cell BK334.out 1).trans rfl; have hcz132_2 : w130.cell? ⟨gb334, 2, none⟩ = some (.slice none 0 0) := (blk_cell BK334.out 2).trans rfl; have hcz132_3 : w130.cell? ⟨gb334, 3, none⟩ = some (.slice none 0 0) := (blk_cell BK334.out 3).trans rfl; have hfz132_0 := blk_frozen BK334.out 0; have hfz132_1 := blk_frozen BK334.out 1; have hfz132_2 := blk_frozen BK334.out 2; have hfz132_3 := blk_frozen BK334.out 3; obtain ⟨Ao133, co133, eo133⟩ := Kd.R_slice HO326.out; subst eo133; obtain ⟨Ao134, co134, eo134⟩ := Kd.R_slice HO329.out; subst eo134; obtain ⟨Ao135, co135, eo135⟩ := Kd.R_slice HO332.out; subst eo135))
   go_ret
   exact ⟨by first | rfl | (simp [errW_none, errW_some] <;> rfl) | (simp [*, errW_none, errW_some] <;> rfl), by repeat (first | (with_reducible first | exact HB.out | apply below_alloc | apply pw_below_drewN | apply below_drew1 | refine below_set ?_ GE334.out) | exact HB.out)⟩
  rw [if_pos c111] at H
  have c111b0 : (t333 == 4) = true := beq_iff_eq.mpr c111
  have c111b1 : (t333 != 4) = false := bne_eq_false_iff_eq.mpr c111
  clear c111
  obtain rfl := Option.some.inj H
  go_enter Try.func4, Try.ntmps4
  go_wp2_with (first | (go_at_call 18; (with_reducible refine (letterbaglaw28_awake.calls  true _ A4.out).mono ?_); rintro e w112 ⟨rfl, hb⟩; have n0_ := Aside0.mk (below_step (by repeat (first | (with_reducible first | exact HB.out | apply below_alloc | apply pw_below_drewN | apply below_drew1) | exact HB.out)) hb); clear HB; have HB := n0_; clear n0_; (try clear hb); (try clear hb2); (try clear hk); (try clear hi)) | (go_at_call 19; (with_reducible refine (letterbaglaw28_route.calls k _ _ l0 9 t315 _ ?side1 ?side2 A6.out).mono ?_); (case side1 => repeat (first | exact (Kd.C_below HR0.out HB.out) | (with_reducible refine Kd.C_alloc ?_ _) | (with_reducible refine Kd.C_drewN ?_ _) | (with_reducible refine Kd.C_drew ?_))); (case side2 => exact HC0.out); rintro e w113 ⟨v316, rfl, ho0, hb⟩; have n0_ := Aside0.mk (Kd.R_lower ho0 (below_size (by repeat (first | (with_reducible first | exact HB.out | apply below_alloc | apply pw_below_drewN | apply below_drew1) | exact HB.out)))); have n1_ := Aside0.mk (below_step (by repeat (first | (with_reducible first | exact HB.out | apply below_alloc | apply pw_below_drewN | apply below_drew1) | exact HB.out)) hb); clear HB; have HO317 := n0_; have HB := n1_; clear n0_ n1_; (try clear hb); (try clear hb2); (try clear hk); (try clear hi); (try clear ho0)) | (go_at_call 20; (with_reducible refine (letterbaglaw28_machine.calls k _ _ l1 t318 _ ?side1 ?side2 A7.out).mono ?_); (case side1 => repeat (first | exact (Kd.C_below HR1.out HB.out) | (with_reducible refine Kd.C_alloc ?_ _) | (with_reducible refine Kd.C_drewN ?_ _) | (with_reducible refine Kd.C_drew ?_))); (case side2 => exact HC1.out); rintro e w114 ⟨v319, rfl, ho0, hb⟩; have n0_ := Aside0.mk (Kd.R_below (by (with_reducible repeat (first | apply Kd.R_alloc | apply Kd.R_drewN | apply Kd.R_drew)); exact HO317.out) hb); have n1_ := Aside0.mk (Kd.R_lower ho0 (below_size (by repeat (first | (with_reducible first | exact HB.out | apply below_alloc | apply pw_below_drewN | apply below_drew1) | exact HB.out)))); have n2_ := Aside0.mk (below_step (by repeat (first | (with_reducible first | exact HB.out | apply below_alloc | apply pw_below_drewN | apply below_drew1) | exact HB.out)) hb); clear HO317; clear HB; have HO317 := n0_; have HO320 := n1_; have HB := n2_; clear n0_ n1_ n2_; (try clear hb); (try clear hb2); (try clear hk); (try clear hi); (try clear ho0); obtain ⟨Ao115, co115, eo115⟩ := Kd.R_slice HO317.out; subst eo115; obtain ⟨Ao116, co116, eo116⟩ := Kd.R_slice HO320.out; subst eo116) | (go_at_call 16; (with_reducible refine (sequence_Make.calls _ _ t315 _ _ t318 t321 t324 t327 t330 t333 _ ?side1 ?side2 ?side3 ?side4 A8.out).mono ?_); (case side1 => repeat (first | exact (Kd.R_reads' HO317.out).2.2 | (with_reducible refine Kd.C_alloc ?_ _) | (with_reducible refine Kd.C_drewN ?_ _) | (with_reducible refine Kd.C_drew ?_))); (case side2 => exact (Kd.R_reads' HO317.out).2.1); (case side3 => repeat (first | exact (Kd.R_reads' HO320.out).2.2 | (with_reducible refine Kd.C_alloc ?_ _) | (with_reducible refine Kd.C_drewN ?_ _) | (with_reducible refine Kd.C_drew ?_))); (case side4 => exact (Kd.R_reads' HO320.out).2.1); rintro e w117 ⟨v322, v325, v328, v331, rfl, ho0, ho1, ho2, ho3, hb⟩; have n0_ := Aside0.mk (Kd.R_below (by (with_reducible repeat (first | apply Kd.R_alloc | apply Kd.R_drewN | apply Kd.R_drew)); exact HO317.out) hb); have n1_ := Aside0.mk (Kd.R_mono (Kd.R_told (Kd.R_told (Kd.R_told (Kd.R_old (by (with_reducible repeat (first | apply Kd.R_alloc | apply Kd.R_drewN | apply Kd.R_drew)); exact HO320.out) hb) (Kd.R_base ho0)) (Kd.R_base ho2)) (Kd.R_base ho3)) (fun _ h_ => h_.1)); have n2_ := Aside0.mk (Kd.R_lower (Kd.R_new' ho0 (Kd.R_lt (by (with_reducible repeat (first | apply Kd.R_alloc | apply Kd.R_drewN | apply Kd.R_drew)); exact HO320.out))) (below_size (by repeat (first | (with_reducible first | exact HB.out | apply below_alloc | apply pw_below_drewN | apply below_drew1) | exact HB.out)))); have n3_ := Aside0.mk (Kd.R_lower ho1 (below_size (by repeat (first | (with_reducible first | exact HB.out | apply below_alloc | apply pw_below_drewN | apply below_drew1) | exact HB.out)))); have n4_ := Aside0.mk (Kd.R_lower (Kd.R_new' ho2 (Kd.R_lt (by (with_reducible repeat (first | apply Kd.R_alloc | apply Kd.R_drewN | apply Kd.R_drew)); exact HO320.out))) (below_size (by repeat (first | (with_reducible first | exact HB.out | apply below_alloc | apply pw_below_drewN | apply below_drew1) | exact HB.out)))); have n5_ := Aside0.mk (Kd.R_lower (Kd.R_new' ho3 (Kd.R_lt (by (with_reducible repeat (first | apply Kd.R_alloc | apply Kd.R_drewN | apply Kd.R_drew)); exact HO320.out))) (below_size (by repeat (first | (with_reducible first | exact HB.out | apply below_alloc | apply pw_below_drewN | apply below_drew1) | exact HB.out)))); have n6_ := Aside0.mk (below_step (by repeat (first | (with_reducible first | exact HB.out | apply below_alloc | apply pw_below_drewN | apply below_drew1) | exact HB.out)) hb); clear HO317; clear HO320; clear HB; have HO317 := n0_; have HO320 := n1_; have HO323 := n2_; have HO326 := n3_; have HO329 := n4_; have HO332 := n5_; have HB := n6_; clear n0_ n1_ n2_ n3_ n4_ n5_ n6_; (try clear hb); (try clear hb2); (try clear hk); (try clear hi); (try clear ho0); (try clear ho1); (try clear ho2); (try clear ho3)) | ((with_reducible refine gate_dst (N := 9) rfl ?_); (try (refine gate_guard (by rfl) ?_; dsimp only)); refine box_event ?hg (N := 9) ?hd (cs := #[.slice none 0 0, .slice none 0 0, .slice none 0 0, .slice none 0 0]) (t := 38) ?hr ?_; (case hd => rfl); (case hg => rfl); (case hr => first | (go_simp; done) | (go_simp; rfl)); intro gb334 hg w118 hbox hb; have n0_ := Aside0.mk (Kd.R_below (by (with_reducible repeat (first | apply Kd.R_alloc | apply Kd.R_drewN | apply Kd.R_drew)); exact HO317.out) hb); have n1_ := Aside0.mk (Kd.R_below (by (with_reducible repeat (first | apply Kd.R_alloc | apply Kd.R_drewN | apply Kd.R_drew)); exact HO320.out) hb); have n2_ := Aside0.mk (Kd.R_below (by (with_reducible repeat (first | apply Kd.R_alloc | apply Kd.R_drewN | apply Kd.R_drew)); exact HO323.out) hb); have n3_ := Aside0.mk (Kd.R_below (by (with_reducible repeat (first | apply Kd.R_alloc | apply Kd.R_drewN | apply Kd.R_drew)); exact HO326.out) hb); have n4_ := Aside0.mk (Kd.R_below (by (with_reducible repeat (first | apply Kd.R_alloc | apply Kd.R_drewN | apply Kd.R_drew)); exact HO329.out) hb); have n5_ := Aside0.mk (Kd.R_below (by (with_reducible repeat (first | apply Kd.R_alloc | apply Kd.R_drewN | apply Kd.R_drew)); exact HO332.out) hb); have n6_ := Aside0.mk (below_step (by repeat (first | (with_reducible first | exact HB.out | apply below_alloc | apply pw_below_drewN | apply below_drew1) | exact HB.out)) hb); have n7_ := Aside0.mk (hbox); have n8_ := Aside0.mk ((by rw [hg]; exact (below_size (by repeat (first | (with_reducible first | exact HB.out | apply below_alloc | apply pw_below_drewN | apply below_drew1) | exact HB.out))) : w.heap.size ≤ gb334)); have n9_ := Aside0.mk ((by rw [hg]; exact (below_size (by repeat (first | (with_reducible first | exact HB.out | apply below_alloc | apply pw_below_drewN | apply below_drew1) | exact HB.out))) : w.heap.size ≤ gb334)); clear HO317; clear HO320; clear HO323; clear HO326; clear HO329; clear HO332; clear HB; have HO317 := n0_; have HO320 := n1_; have HO323 := n2_; have HO326 := n3_; have HO329 := n4_; have HO332 := n5_; have HB := n6_; have BK334 := n7_; have GW334 := n8_; have GE334 := n9_; clear n0_ n1_ n2_ n3_ n4_ n5_ n6_ n7_ n8_ n9_; clear hb hbox hg; obtain ⟨Ao119, co119, eo119⟩ := Kd.R_slice HO323.out; subst eo119; have hcz120_0 : w118.cell? ⟨gb334, 0, none⟩ = some (.slice none 0 0) := (blk_cell BK334.out 0).trans rfl; have hcz120_1 : w118.cell? ⟨gb334, 1, none⟩ = some (.slice none 0 0) := (blk_cell BK334.out 1).trans rfl; have hcz120_2 : w118.cell? ⟨gb334, 2, none⟩ = some (.slice none 0 0) := (blk_cell BK334.out 2).trans rfl; have hcz120_3 : w118.cell? ⟨gb334, 3, none⟩ = some (.slice none 0 0) := (blk_cell BK334.out 3).trans rfl; have hfz120_0 := blk_frozen BK334.out 0; have hfz120_1 := blk_frozen BK334.out 1; have hfz120_2 := blk_frozen BK334.out 2; have hfz120_3 := blk_frozen BK334.out 3; obtain ⟨Ao121, co121, eo121⟩ := Kd.R_slice HO326.out; subst eo121; obtain ⟨Ao122, co122, eo122⟩ := Kd.R_slice HO329.out; subst eo122; obtain ⟨Ao123, co123, eo123⟩ := Kd.R_slice HO332.out; subst eo123))
  go_ret
  exact ⟨by first | rfl | (simp [errW_none, errW_some] <;> rfl) | (simp [*, errW_none, errW_some] <;> rfl), by repeat (first | (with_reducible first | exact HB.out | apply below_alloc | apply pw_below_drewN | apply below_drew1 | refine below_set ?_ GE334.out) | exact HB.out)⟩
 rw [if_pos c9] at H
 have c9b0 : (t333 == 0) = true := beq_iff_eq.mpr c9
 have c9b1 : (t333 != 0) = false := bne_eq_false_iff_eq.mpr c9
 clear c9
 have HC10 := Aside0.mk H
 clear H
 go_enter Try.func4, Try.ntmps4
 go_upto_region 7 with (first | (go_at_call 18; (with_reducible refine (letterbaglaw28_awake.calls  true _ A4.out).mono ?_); rintro e w11 ⟨rfl, hb⟩; have n0_ := Aside0.mk (below_step (by repeat (first | (with_reducible first | exact HB.out | apply below_alloc | apply pw_below_drewN | apply below_drew1) | exact HB.out)) hb); clear HB; have HB := n0_; clear n0_; (try clear hb); (try clear hb2); (try clear hk); (try clear hi)) | (go_at_call 19; (with_reducible refine (letterbaglaw28_route.calls k _ _ l0 9 t315 _ ?side1 ?side2 A6.out).mono ?_); (case side1 => repeat (first | exact (Kd.C_below HR0.out HB.out) | (with_reducible refine Kd.C_alloc ?_ _) | (with_reducible refine Kd.C_drewN ?_ _) | (with_reducible refine Kd.C_drew ?_))); (case side2 => exact HC0.out); rintro e w12 ⟨v316, rfl, ho0, hb⟩; have n0_ := Aside0.mk (Kd.R_lower ho0 (below_size (by repeat (first | (with_reducible first | exact HB.out | apply below_alloc | apply pw_below_drewN | apply below_drew1) | exact HB.out)))); have n1_ := Aside0.mk (below_step (by repeat (first | (with_reducible first | exact HB.out | apply below_alloc | apply pw_below_drewN | apply below_drew1) | exact HB.out)) hb); clear HB; have HO317 := n0_; have HB := n1_; clear n0_ n1_; (try clear hb); (try clear hb2); (try clear hk); (try clear hi); (try clear ho0)) | (go_at_call 20; (with_reducible refine (letterbaglaw28_machine.calls k _ _ l1 t318 _ ?side1 ?side2 A7.out).mono ?_); (case side1 => repeat (first | exact (Kd.C_below HR1.out HB.out) | (with_reducible refine Kd.C_alloc ?_ _) | (with_reducible refine Kd.C_drewN ?_ _) | (with_reducible refine Kd.C_drew ?_))); (case side2 => exact HC1.out); rintro e w13 ⟨v319, rfl, ho0, hb⟩; have n0_ := Aside0.mk (Kd.R_below (by (with_reducible repeat (first | apply Kd.R_alloc | apply Kd.R_drewN | apply Kd.R_drew)); exact HO317.out) hb); have n1_ := Aside0.mk (Kd.R_lower ho0 (below_size (by repeat (first | (with_reducible first | exact HB.out | apply below_alloc | apply pw_below_drewN | apply below_drew1) | exact HB.out)))); have n2_ := Aside0.mk (below_step (by repeat (first | (with_reducible first | exact HB.out | apply below_alloc | apply pw_below_drewN | apply below_drew1) | exact HB.out)) hb); clear HO317; clear HB; have HO317 := n0_; have HO320 := n1_; have HB := n2_; clear n0_ n1_ n2_; (try clear hb); (try clear hb2); (try clear hk); (try clear hi); (try clear ho0); obtain ⟨Ao14, co14, eo14⟩ := Kd.R_slice HO317.out; subst eo14; obtain ⟨Ao15, co15, eo15⟩ := Kd.R_slice HO320.out; subst eo15) | (go_at_call 16; (with_reducible refine (sequence_Make.calls _ _ t315 _ _ t318 t321 t324 t327 t330 t333 _ ?side1 ?side2 ?side3 ?side4 A8.out).mono ?_); (case side1 => repeat (first | exact (Kd.R_reads' HO317.out).2.2 | (with_reducible refine Kd.C_alloc ?_ _) | (with_reducible refine Kd.C_drewN ?_ _) | (with_reducible refine Kd.C_drew ?_))); (case side2 => exact (Kd.R_reads' HO317.out).2.1); (case side3 => repeat (first | exact (Kd.R_reads' HO320.out).2.2 | (with_reducible refine Kd.C_alloc ?_ _) | (with_reducible refine Kd.C_drewN ?_ _) | (with_reducible refine Kd.C_drew ?_))); (case side4 => exact (Kd.R_reads' HO320.out).2.1); rintro e w16 ⟨v322, v325, v328, v331, rfl, ho0, ho1, ho2, ho3, hb⟩; have n0_ := Aside0.mk (Kd.R_below (by (with_reducible repeat (first | apply Kd.R_alloc | apply Kd.R_drewN | apply Kd.R_drew)); exact HO317.out) hb); have n1_ := Aside0.mk (Kd.R_mono (Kd.R_told (Kd.R_told (Kd.R_told (Kd.R_old (by (with_reducible repeat (first | apply Kd.R_alloc | apply Kd.R_drewN | apply Kd.R_drew)); exact HO320.out) hb) (Kd.R_base ho0)) (Kd.R_base ho2)) (Kd.R_base ho3)) (fun _ h_ => h_.1)); have n2_ := Aside0.mk (Kd.R_lower (Kd.R_new' ho0 (Kd.R_lt (by (with_reducible repeat (first | apply Kd.R_alloc | apply Kd.R_drewN | apply Kd.R_drew)); exact HO320.out))) (below_size (by repeat (first | (with_reducible first | exact HB.out | apply below_alloc | apply pw_below_drewN | apply below_drew1) | exact HB.out)))); have n3_ := Aside0.mk (Kd.R_lower ho1 (below_size (by repeat (first | (with_reducible first | exact HB.out | apply below_alloc | apply pw_below_drewN | apply below_drew1) | exact HB.out)))); have n4_ := Aside0.mk (Kd.R_lower (Kd.R_new' ho2 (Kd.R_lt (by (with_reducible repeat (first | apply Kd.R_alloc | apply Kd.R_drewN | apply Kd.R_drew)); exact HO320.out))) (below_size (by repeat (first | (with_reducible first | exact HB.out | apply below_alloc | apply pw_below_drewN | apply below_drew1) | exact HB.out)))); have n5_ := Aside0.mk (Kd.R_lower (Kd.R_new' ho3 (Kd.R_lt (by (with_reducible repeat (first | apply Kd.R_alloc | apply Kd.R_drewN | apply Kd.R_drew)); exact HO320.out))) (below_size (by repeat (first | (with_reducible first | exact HB.out | apply below_alloc | apply pw_below_drewN | apply below_drew1) | exact HB.out)))); have n6_ := Aside0.mk (below_step (by repeat (first | (with_reducible first | exact HB.out | apply below_alloc | apply pw_below_drewN | apply below_drew1) | exact HB.out)) hb); clear HO317; clear HO320; clear HB; have HO317 := n0_; have HO320 := n1_; have HO323 := n2_; have HO326 := n3_; have HO329 := n4_; have HO332 := n5_; have HB := n6_; clear n0_ n1_ n2_ n3_ n4_ n5_ n6_; (try clear hb); (try clear hb2); (try clear hk); (try clear hi); (try clear ho0); (try clear ho1); (try clear ho2); (try clear ho3)) | ((with_reducible refine gate_dst (N := 9) rfl ?_); (try (refine gate_guard (by rfl) ?_; dsimp only)); refine box_event ?hg (N := 9) ?hd (cs := #[.slice none 0 0, .slice none 0 0, .slice none 0 0, .slice none 0 0]) (t := 38) ?hr ?_; (case hd => rfl); (case hg => rfl); (case hr => first | (go_simp; done) | (go_simp; rfl)); intro gb334 hg w17 hbox hb; have n0_ := Aside0.mk (Kd.R_below (by (with_reducible repeat (first | apply Kd.R_alloc | apply Kd.R_drewN | apply Kd.R_drew)); exact HO317.out) hb); have n1_ := Aside0.mk (Kd.R_below (by (with_reducible repeat (first | apply Kd.R_alloc | apply Kd.R_drewN | apply Kd.R_drew)); exact HO320.out) hb); have n2_ := Aside0.mk (Kd.R_below (by (with_reducible repeat (first | apply Kd.R_alloc | apply Kd.R_drewN | apply Kd.R_drew)); exact HO323.out) hb); have n3_ := Aside0.mk (Kd.R_below (by (with_reducible repeat (first | apply Kd.R_alloc | apply Kd.R_drewN | apply Kd.R_drew)); exact HO326.out) hb); have n4_ := Aside0.mk (Kd.R_below (by (with_reducible repeat (first | apply Kd.R_alloc | apply Kd.R_drewN | apply Kd.R_drew)); exact HO329.out) hb); have n5_ := Aside0.mk (Kd.R_below (by (with_reducible repeat (first | apply Kd.R_alloc | apply Kd.R_drewN | apply Kd.R_drew)); exact HO332.out) hb); have n6_ := Aside0.mk (below_step (by repeat (first | (with_reducible first | exact HB.out | apply below_alloc | apply pw_below_drewN | apply below_drew1) | exact HB.out)) hb); have n7_ := Aside0.mk (hbox); have n8_ := Aside0.mk ((by rw [hg]; exact (below_size (by repeat (first | (with_reducible first | exact HB.out | apply below_alloc | apply pw_below_drewN | apply below_drew1) | exact HB.out))) : w.heap.size ≤ gb334)); have n9_ := Aside0.mk ((by rw [hg]; exact (below_size (by repeat (first | (with_reducible first | exact HB.out | apply below_alloc | apply pw_below_drewN | apply below_drew1) | exact HB.out))) : w.heap.size ≤ gb334)); clear HO317; clear HO320; clear HO323; clear HO326; clear HO329; clear HO332; clear HB; have HO317 := n0_; have HO320 := n1_; have HO323 := n2_; have HO326 := n3_; have HO329 := n4_; have HO332 := n5_; have HB := n6_; have BK334 := n7_; have GW334 := n8_; have GE334 := n9_; clear n0_ n1_ n2_ n3_ n4_ n5_ n6_ n7_ n8_ n9_; clear hb hbox hg; obtain ⟨Ao18, co18, eo18⟩ := Kd.R_slice HO323.out; subst eo18; have hcz19_0 : w17.cell? ⟨gb334, 0, none⟩ = some (.slice none 0 0) := (blk_cell BK334.out 0).trans rfl; have hcz19_1 : w17.cell? ⟨gb334, 1, none⟩ = some (.slice none 0 0) := (blk_cell BK334.out 1).trans rfl; have hcz19_2 : w17.cell? ⟨gb334, 2, none⟩ = some (.slice none 0 0) := (blk_cell BK334.out 2).trans rfl; have hcz19_3 : w17.cell? ⟨gb334, 3, none⟩ = some (.slice none 0 0) := (blk_cell BK334.out 3).trans rfl; have hfz19_0 := blk_frozen BK334.out 0; have hfz19_1 := blk_frozen BK334.out 1; have hfz19_2 := blk_frozen BK334.out 2; have hfz19_3 := blk_frozen BK334.out 3; obtain ⟨Ao20, co20, eo20⟩ := Kd.R_slice HO326.out; subst eo20; obtain ⟨Ao21, co21, eo21⟩ := Kd.R_slice HO329.out; subst eo21; obtain ⟨Ao22, co22, eo22⟩ := Kd.R_slice HO332.out; subst eo22))
 (try simp only [Act.put, List.setIfInBounds_toArray, List.set_cons_zero, List.set_cons_succ])
 go_cut [70] (fun v70 wc => ∃ (kq : Nat) (x70_9 : Bool), v70 = .bool x70_9 ∧ Aside0 (letterbaglaw28_SequenceExact.j0 kq l2 t315 t318 x70_9 t321 t324 t327 t330 = some r) ∧ Aside0 (kq ≤ k) ∧ Aside0 (Kd.R k27 27 wc w.heap.size (fun _ => True) (.slice Ao14 t315.length co14) t315) ∧ Aside0 (Kd.R (Kd.int .i64) 3 wc w.heap.size (fun k_ => some k_ ≠ ((.slice Ao18 t321.length co18) : Value).ownBlock ∧ some k_ ≠ ((.slice Ao21 t327.length co21) : Value).ownBlock ∧ some k_ ≠ ((.slice Ao22 t330.length co22) : Value).ownBlock) (.slice Ao15 t318.length co15) t318) ∧ Aside0 (Kd.R (Kd.int .i64) 3 wc w.heap.size (fun k_ => some k_ ≠ ((.slice Ao15 t318.length co15) : Value).ownBlock ∧ some k_ ≠ ((.slice Ao21 t327.length co21) : Value).ownBlock ∧ some k_ ≠ ((.slice Ao22 t330.length co22) : Value).ownBlock) (.slice Ao18 t321.length co18) t321) ∧ Aside0 (Kd.R k60 60 wc w.heap.size (fun _ => True) (.slice Ao20 t324.length co20) t324) ∧ Aside0 (Kd.R (Kd.int .i64) 3 wc w.heap.size (fun k_ => some k_ ≠ ((.slice Ao15 t318.length co15) : Value).ownBlock ∧ some k_ ≠ ((.slice Ao18 t321.length co18) : Value).ownBlock ∧ some k_ ≠ ((.slice Ao22 t330.length co22) : Value).ownBlock) (.slice Ao21 t327.length co21) t327) ∧ Aside0 (Kd.R (Kd.int .i64) 3 wc w.heap.size (fun k_ => some k_ ≠ ((.slice Ao15 t318.length co15) : Value).ownBlock ∧ some k_ ≠ ((.slice Ao18 t321.length co18) : Value).ownBlock ∧ some k_ ≠ ((.slice Ao21 t327.length co21) : Value).ownBlock) (.slice Ao22 t330.length co22) t330) ∧ Aside0 (wc.heap[gb334]? = some (.cells #[(.slice Ao18 t321.length co18), (.slice Ao20 t324.length co20), (.slice Ao21 t327.length co21), (.slice Ao22 t330.length co22)] 38 (0, 0))) ∧ Aside0 (Below w.heap.size w wc))
 case first => as_aux_lemma =>
  have H := HC10.out; clear HC10
  by_cases c23 : (t324.length : Int) = (t315.length : Int)
  rotate_left
  ·rw [if_neg c23] at H
   have c23b0 : ((t324.length : Int) == (t315.length : Int)) = false := beq_eq_false_iff_ne.mpr c23
   have c23b1 : ((t324.length : Int) != (t315.length : Int)) = true := bne_iff_ne.mpr c23
   have c23b2 : (t324.length == t315.length) = false := by first | simpa using c23 | (simp at c23 ⊢; omega)
   (first | rw [c23b0] | (simp only [i64_w, i32_w]; rw [c23b0]) | skip)
   have H' := Aside0.mk H
   clear H
   have hcz30_0 : w17.cell? ⟨gb334, 0, none⟩ = some (.slice none 0 0) := (blk_cell BK334.out 0).trans rfl
   have hcz30_1 : w17.cell? ⟨gb334, 1, none⟩ = some (.slice none 0 0) := (blk_cell BK334.out 1).trans rfl
   have hcz30_2 : w17.cell? ⟨gb334, 2, none⟩ = some (.slice none 0 0) := (blk_cell BK334.out 2).trans rfl
   have hcz30_3 : w17.cell? ⟨gb334, 3, none⟩ = some (.slice none 0 0) := (blk_cell BK334.out 3).trans rfl
   have hfz30_0 := blk_frozen BK334.out 0
   have hfz30_1 := blk_frozen BK334.out 1
   have hfz30_2 := blk_frozen BK334.out 2
   have hfz30_3 := blk_frozen BK334.out 3
   go_wp2
   repeat (go_quiet (fail); try go_wp2)
   go_meet
   case rel => exact ⟨_, (true), (by first | rfl | (simp; done) | (simp [*]; done)), H', ⟨by first | omega | exact Nat.le_refl _⟩, ⟨by (with_reducible repeat (first | apply Kd.R_alloc | apply Kd.R_drewN | apply Kd.R_drew)); exact Kd.R_mono (Kd.R_far (p := ⟨gb334, 3, none⟩) (Kd.R_far (p := ⟨gb334, 2, none⟩) (Kd.R_far (p := ⟨gb334, 1, none⟩) (Kd.R_far (p := ⟨gb334, 0, none⟩) (Kd.R_types HO317.out BK334.out (by decide)) (fun _ hk => hk.2) (.slice Ao18 t321.length co18)) (fun _ hk => hk.2) (.slice Ao20 t324.length co20)) (fun _ hk => hk.2) (.slice Ao21 t327.length co21)) (fun _ hk => hk.2) (.slice Ao22 t330.length co22)) (fun _ hk => trivial)⟩, ⟨by (with_reducible repeat (first | apply Kd.R_alloc | apply Kd.R_drewN | apply Kd.R_drew)); exact Kd.R_mono (Kd.R_far (p := ⟨gb334, 3, none⟩) (Kd.R_far (p := ⟨gb334, 2, none⟩) (Kd.R_far (p := ⟨gb334, 1, none⟩) (Kd.R_far (p := ⟨gb334, 0, none⟩) (Kd.R_types HO320.out BK334.out (by decide)) (fun _ hk => hk.2) (.slice Ao18 t321.length co18)) (fun _ hk => hk.2) (.slice Ao20 t324.length co20)) (fun _ hk => hk.2) (.slice Ao21 t327.length co21)) (fun _ hk => hk.2) (.slice Ao22 t330.length co22)) (fun _ hk => ⟨hk.1.1.1.2, ⟨hk.1.1.2, hk.1.2⟩⟩)⟩, ⟨by (with_reducible repeat (first | apply Kd.R_alloc | apply Kd.R_drewN | apply Kd.R_drew)); exact Kd.R_mono (Kd.R_far (p := ⟨gb334, 3, none⟩) (Kd.R_far (p := ⟨gb334, 2, none⟩) (Kd.R_far (p := ⟨gb334, 1, none⟩) (Kd.R_far (p := ⟨gb334, 0, none⟩) (Kd.R_types HO323.out BK334.out (by decide)) (fun _ hk => hk.2) (.slice Ao18 t321.length co18)) (fun _ hk => hk.2) (.slice Ao20 t324.length co20)) (fun _ hk => hk.2) (.slice Ao21 t327.length co21)) (fun _ hk => hk.2) (.slice Ao22 t330.length co22)) (fun _ hk => ⟨hk.1.2, ⟨hk.1.1.1, hk.1.1.2⟩⟩)⟩, ⟨by (with_reducible repeat (first | apply Kd.R_alloc | apply Kd.R_drewN | apply Kd.R_drew)); exact Kd.R_mono (Kd.R_far (p := ⟨gb334, 3, none⟩) (Kd.R_far (p := ⟨gb334, 2, none⟩) (Kd.R_far (p := ⟨gb334, 1, none⟩) (Kd.R_far (p := ⟨gb334, 0, none⟩) (Kd.R_types HO326.out BK334.out (by decide)) (fun _ hk => hk.2) (.slice Ao18 t321.length co18)) (fun _ hk => hk.2) (.slice Ao20 t324.length co20)) (fun _ hk => hk.2) (.slice Ao21 t327.length co21)) (fun _ hk => hk.2) (.slice Ao22 t330.length co22)) (fun _ hk => trivial)⟩, ⟨by (with_reducible repeat (first | apply Kd.R_alloc | apply Kd.R_drewN | apply Kd.R_drew)); exact Kd.R_mono (Kd.R_far (p := ⟨gb334, 3, none⟩) (Kd.R_far (p := ⟨gb334, 2, none⟩) (Kd.R_far (p := ⟨gb334, 1, none⟩) (Kd.R_far (p := ⟨gb334, 0, none⟩) (Kd.R_types HO329.out BK334.out (by decide)) (fun _ hk => hk.2) (.slice Ao18 t321.length co18)) (fun _ hk => hk.2) (.slice Ao20 t324.length co20)) (fun _ hk => hk.2) (.slice Ao21 t327.length co21)) (fun _ hk => hk.2) (.slice Ao22 t330.length co22)) (fun _ hk => ⟨hk.1.2, ⟨hk.1.1.1, hk.1.1.2⟩⟩)⟩, ⟨by (with_reducible repeat (first | apply Kd.R_alloc | apply Kd.R_drewN | apply Kd.R_drew)); exact Kd.R_mono (Kd.R_far (p := ⟨gb334, 3, none⟩) (Kd.R_far (p := ⟨gb334, 2, none⟩) (Kd.R_far (p := ⟨gb334, 1, none⟩) (Kd.R_far (p := ⟨gb334, 0, none⟩) (Kd.R_types HO332.out BK334.out (by decide)) (fun _ hk => hk.2) (.slice Ao18 t321.length co18)) (fun _ hk => hk.2) (.slice Ao20 t324.length co20)) (fun _ hk => hk.2) (.slice Ao21 t327.length co21)) (fun _ hk => hk.2) (.slice Ao22 t330.length co22)) (fun _ hk => ⟨hk.1.2, ⟨hk.1.1.1, hk.1.1.2⟩⟩)⟩, ⟨by (with_reducible repeat (first | refine blk_drewN ?_ _ | refine blk_drew ?_ | refine blk_alloc ?_ _)); refine blk_put (cs := #[.slice Ao18 t321.length co18, .slice Ao20 t324.length co20, .slice Ao21 t327.length co21, .slice none 0 0]) ?_ 3 _ rfl; (with_reducible repeat (first | refine blk_drewN ?_ _ | refine blk_drew ?_ | refine blk_alloc ?_ _)); refine blk_put (cs := #[.slice Ao18 t321.length co18, .slice Ao20 t324.length co20, .slice none 0 0, .slice none 0 0]) ?_ 2 _ rfl; (with_reducible repeat (first | refine blk_drewN ?_ _ | refine blk_drew ?_ | refine blk_alloc ?_ _)); refine blk_put (cs := #[.slice Ao18 t321.length co18, .slice none 0 0, .slice none 0 0, .slice none 0 0]) ?_ 1 _ rfl; (with_reducible repeat (first | refine blk_drewN ?_ _ | refine blk_drew ?_ | refine blk_alloc ?_ _)); refine blk_put (cs := #[.slice none 0 0, .slice none 0 0, .slice none 0 0, .slice none 0 0]) ?_ 0 _ rfl; (with_reducible repeat (first | refine blk_drewN ?_ _ | refine blk_drew ?_ | refine blk_alloc ?_ _)); exact BK334.out⟩, ⟨by repeat (first | (with_reducible first | exact HB.out | apply below_alloc | apply pw_below_drewN | apply below_drew1 | refine below_set ?_ GE334.out) | exact HB.out)⟩⟩
  rw [if_pos c23] at H
  have c23b0 : ((t324.length : Int) == (t315.length : Int)) = true := beq_iff_eq.mpr c23
  have c23b1 : ((t324.length : Int) != (t315.length : Int)) = false := bne_eq_false_iff_eq.mpr c23
  have c23b2 : (t324.length == t315.length) = true := by first | simpa using c23 | (simp at c23 ⊢; omega)
  clear c23
  (first | rw [c23b0] | (simp only [i64_w, i32_w]; rw [c23b0]) | skip)
  by_cases c24 : (t327.length : Int) = (t318.length : Int)
  rotate_left
  ·rw [if_neg c24] at H
   have c24b0 : ((t327.length : Int) == (t318.length : Int)) = false := beq_eq_false_iff_ne.mpr c24
   have c24b1 : ((t327.length : Int) != (t318.length : Int)) = true := bne_iff_ne.mpr c24
   have c24b2 : (t327.length == t318.length) = false := by first | simpa using c24 | (simp at c24 ⊢; omega)
   have H' := Aside0.mk H
   clear H
   have hcz29_0 : w17.cell? ⟨gb334, 0, none⟩ = some (.slice none 0 0) := (blk_cell BK334.out 0).trans rfl
   have hcz29_1 : w17.cell? ⟨gb334, 1, none⟩ = some (.slice none 0 0) := (blk_cell BK334.out 1).trans rfl
   have hcz29_2 : w17.cell? ⟨gb334, 2, none⟩ = some (.slice none 0 0) := (blk_cell BK334.out 2).trans rfl
   have hcz29_3 : w17.cell? ⟨gb334, 3, none⟩ = some (.slice none 0 0) := (blk_cell BK334.out 3).trans rfl
   have hfz29_0 := blk_frozen BK334.out 0
   have hfz29_1 := blk_frozen BK334.out 1
   have hfz29_2 := blk_frozen BK334.out 2
   have hfz29_3 := blk_frozen BK334.out 3
   go_wp2
   repeat (go_quiet (fail); try go_wp2)
   go_meet
   case rel => exact ⟨_, (true), (by first | rfl | (simp; done) | (simp [*]; done)), H', ⟨by first | omega | exact Nat.le_refl _⟩, ⟨by (with_reducible repeat (first | apply Kd.R_alloc | apply Kd.R_drewN | apply Kd.R_drew)); exact Kd.R_mono (Kd.R_far (p := ⟨gb334, 3, none⟩) (Kd.R_far (p := ⟨gb334, 2, none⟩) (Kd.R_far (p := ⟨gb334, 1, none⟩) (Kd.R_far (p := ⟨gb334, 0, none⟩) (Kd.R_types HO317.out BK334.out (by decide)) (fun _ hk => hk.2) (.slice Ao18 t321.length co18)) (fun _ hk => hk.2) (.slice Ao20 t324.length co20)) (fun _ hk => hk.2) (.slice Ao21 t327.length co21)) (fun _ hk => hk.2) (.slice Ao22 t330.length co22)) (fun _ hk => trivial)⟩, ⟨by (with_reducible repeat (first | apply Kd.R_alloc | apply Kd.R_drewN | apply Kd.R_drew)); exact Kd.R_mono (Kd.R_far (p := ⟨gb334, 3, none⟩) (Kd.R_far (p := ⟨gb334, 2, none⟩) (Kd.R_far (p := ⟨gb334, 1, none⟩) (Kd.R_far (p := ⟨gb334, 0, none⟩) (Kd.R_types HO320.out BK334.out (by decide)) (fun _ hk => hk.2) (.slice Ao18 t321.length co18)) (fun _ hk => hk.2) (.slice Ao20 t324.length co20)) (fun _ hk => hk.2) (.slice Ao21 t327.length co21)) (fun _ hk => hk.2) (.slice Ao22 t330.length co22)) (fun _ hk => ⟨hk.1.1.1.2, ⟨hk.1.1.2, hk.1.2⟩⟩)⟩, ⟨by (with_reducible repeat (first | apply Kd.R_alloc | apply Kd.R_drewN | apply Kd.R_drew)); exact Kd.R_mono (Kd.R_far (p := ⟨gb334, 3, none⟩) (Kd.R_far (p := ⟨gb334, 2, none⟩) (Kd.R_far (p := ⟨gb334, 1, none⟩) (Kd.R_far (p := ⟨gb334, 0, none⟩) (Kd.R_types HO323.out BK334.out (by decide)) (fun _ hk => hk.2) (.slice Ao18 t321.length co18)) (fun _ hk => hk.2) (.slice Ao20 t324.length co20)) (fun _ hk => hk.2) (.slice Ao21 t327.length co21)) (fun _ hk => hk.2) (.slice Ao22 t330.length co22)) (fun _ hk => ⟨hk.1.2, ⟨hk.1.1.1, hk.1.1.2⟩⟩)⟩, ⟨by (with_reducible repeat (first | apply Kd.R_alloc | apply Kd.R_drewN | apply Kd.R_drew)); exact Kd.R_mono (Kd.R_far (p := ⟨gb334, 3, none⟩) (Kd.R_far (p := ⟨gb334, 2, none⟩) (Kd.R_far (p := ⟨gb334, 1, none⟩) (Kd.R_far (p := ⟨gb334, 0, none⟩) (Kd.R_types HO326.out BK334.out (by decide)) (fun _ hk => hk.2) (.slice Ao18 t321.length co18)) (fun _ hk => hk.2) (.slice Ao20 t324.length co20)) (fun _ hk => hk.2) (.slice Ao21 t327.length co21)) (fun _ hk => hk.2) (.slice Ao22 t330.length co22)) (fun _ hk => trivial)⟩, ⟨by (with_reducible repeat (first | apply Kd.R_alloc | apply Kd.R_drewN | apply Kd.R_drew)); exact Kd.R_mono (Kd.R_far (p := ⟨gb334, 3, none⟩) (Kd.R_far (p := ⟨gb334, 2, none⟩) (Kd.R_far (p := ⟨gb334, 1, none⟩) (Kd.R_far (p := ⟨gb334, 0, none⟩) (Kd.R_types HO329.out BK334.out (by decide)) (fun _ hk => hk.2) (.slice Ao18 t321.length co18)) (fun _ hk => hk.2) (.slice Ao20 t324.length co20)) (fun _ hk => hk.2) (.slice Ao21 t327.length co21)) (fun _ hk => hk.2) (.slice Ao22 t330.length co22)) (fun _ hk => ⟨hk.1.2, ⟨hk.1.1.1, hk.1.1.2⟩⟩)⟩, ⟨by (with_reducible repeat (first | apply Kd.R_alloc | apply Kd.R_drewN | apply Kd.R_drew)); exact Kd.R_mono (Kd.R_far (p := ⟨gb334, 3, none⟩) (Kd.R_far (p := ⟨gb334, 2, none⟩) (Kd.R_far (p := ⟨gb334, 1, none⟩) (Kd.R_far (p := ⟨gb334, 0, none⟩) (Kd.R_types HO332.out BK334.out (by decide)) (fun _ hk => hk.2) (.slice Ao18 t321.length co18)) (fun _ hk => hk.2) (.slice Ao20 t324.length co20)) (fun _ hk => hk.2) (.slice Ao21 t327.length co21)) (fun _ hk => hk.2) (.slice Ao22 t330.length co22)) (fun _ hk => ⟨hk.1.2, ⟨hk.1.1.1, hk.1.1.2⟩⟩)⟩, ⟨by (with_reducible repeat (first | refine blk_drewN ?_ _ | refine blk_drew ?_ | refine blk_alloc ?_ _)); refine blk_put (cs := #[.slice Ao18 t321.length co18, .slice Ao20 t324.length co20, .slice Ao21 t327.length co21, .slice none 0 0]) ?_ 3 _ rfl; (with_reducible repeat (first | refine blk_drewN ?_ _ | refine blk_drew ?_ | refine blk_alloc ?_ _)); refine blk_put (cs := #[.slice Ao18 t321.length co18, .slice Ao20 t324.length co20, .slice none 0 0, .slice none 0 0]) ?_ 2 _ rfl; (with_reducible repeat (first | refine blk_drewN ?_ _ | refine blk_drew ?_ | refine blk_alloc ?_ _)); refine blk_put (cs := #[.slice Ao18 t321.length co18, .slice none 0 0, .slice none 0 0, .slice none 0 0]) ?_ 1 _ rfl; (with_reducible repeat (first | refine blk_drewN ?_ _ | refine blk_drew ?_ | refine blk_alloc ?_ _)); refine blk_put (cs := #[.slice none 0 0, .slice none 0 0, .slice none 0 0, .slice none 0 0]) ?_ 0 _ rfl; (with_reducible repeat (first | refine blk_drewN ?_ _ | refine blk_drew ?_ | refine blk_alloc ?_ _)); exact BK334.out⟩, ⟨by repeat (first | (with_reducible first | exact HB.out | apply below_alloc | apply pw_below_drewN | apply below_drew1 | refine below_set ?_ GE334.out) | exact HB.out)⟩⟩
  rw [if_pos c24] at H
  have c24b0 : ((t327.length : Int) == (t318.length : Int)) = true := beq_iff_eq.mpr c24
  have c24b1 : ((t327.length : Int) != (t318.length : Int)) = false := bne_eq_false_iff_eq.mpr c24
  have c24b2 : (t327.length == t318.length) = true := by first | simpa using c24 | (simp at c24 ⊢; omega)
  clear c24
  by_cases c25 : (t330.length : Int) = (t318.length : Int)
  rotate_left
  ·rw [if_neg c25] at H
   have c25b0 : ((t330.length : Int) == (t318.length : Int)) = false := beq_eq_false_iff_ne.mpr c25
   have c25b1 : ((t330.length : Int) != (t318.length : Int)) = true := bne_iff_ne.mpr c25
   have c25b2 : (t330.length == t318.length) = false := by first | simpa using c25 | (simp at c25 ⊢; omega)
   have H' := Aside0.mk H
   clear H
   have hcz28_0 : w17.cell? ⟨gb334, 0, none⟩ = some (.slice none 0 0) := (blk_cell BK334.out 0).trans rfl
   have hcz28_1 : w17.cell? ⟨gb334, 1, none⟩ = some (.slice none 0 0) := (blk_cell BK334.out 1).trans rfl
   have hcz28_2 : w17.cell? ⟨gb334, 2, none⟩ = some (.slice none 0 0) := (blk_cell BK334.out 2).trans rfl
   have hcz28_3 : w17.cell? ⟨gb334, 3, none⟩ = some (.slice none 0 0) := (blk_cell BK334.out 3).trans rfl
   have hfz28_0 := blk_frozen BK334.out 0
   have hfz28_1 := blk_frozen BK334.out 1
   have hfz28_2 := blk_frozen BK334.out 2
   have hfz28_3 := blk_frozen BK334.out 3
   go_wp2
   repeat (go_quiet (fail); try go_wp2)
   go_meet
   case rel => exact ⟨_, (true), (by first | rfl | (simp; done) | (simp [*]; done)), H', ⟨by first | omega | exact Nat.le_refl _⟩, ⟨by (with_reducible repeat (first | apply Kd.R_alloc | apply Kd.R_drewN | apply Kd.R_drew)); exact Kd.R_mono (Kd.R_far (p := ⟨gb334, 3, none⟩) (Kd.R_far (p := ⟨gb334, 2, none⟩) (Kd.R_far (p := ⟨gb334, 1, none⟩) (Kd.R_far (p := ⟨gb334, 0, none⟩) (Kd.R_types HO317.out BK334.out (by decide)) (fun _ hk => hk.2) (.slice Ao18 t321.length co18)) (fun _ hk => hk.2) (.slice Ao20 t324.length co20)) (fun _ hk => hk.2) (.slice Ao21 t327.length co21)) (fun _ hk => hk.2) (.slice Ao22 t330.length co22)) (fun _ hk => trivial)⟩, ⟨by (with_reducible repeat (first | apply Kd.R_alloc | apply Kd.R_drewN | apply Kd.R_drew)); exact Kd.R_mono (Kd.R_far (p := ⟨gb334, 3, none⟩) (Kd.R_far (p := ⟨gb334, 2, none⟩) (Kd.R_far (p := ⟨gb334, 1, none⟩) (Kd.R_far (p := ⟨gb334, 0, none⟩) (Kd.R_types HO320.out BK334.out (by decide)) (fun _ hk => hk.2) (.slice Ao18 t321.length co18)) (fun _ hk => hk.2) (.slice Ao20 t324.length co20)) (fun _ hk => hk.2) (.slice Ao21 t327.length co21)) (fun _ hk => hk.2) (.slice Ao22 t330.length co22)) (fun _ hk => ⟨hk.1.1.1.2, ⟨hk.1.1.2, hk.1.2⟩⟩)⟩, ⟨by (with_reducible repeat (first | apply Kd.R_alloc | apply Kd.R_drewN | apply Kd.R_drew)); exact Kd.R_mono (Kd.R_far (p := ⟨gb334, 3, none⟩) (Kd.R_far (p := ⟨gb334, 2, none⟩) (Kd.R_far (p := ⟨gb334, 1, none⟩) (Kd.R_far (p := ⟨gb334, 0, none⟩) (Kd.R_types HO323.out BK334.out (by decide)) (fun _ hk => hk.2) (.slice Ao18 t321.length co18)) (fun _ hk => hk.2) (.slice Ao20 t324.length co20)) (fun _ hk => hk.2) (.slice Ao21 t327.length co21)) (fun _ hk => hk.2) (.slice Ao22 t330.length co22)) (fun _ hk => ⟨hk.1.2, ⟨hk.1.1.1, hk.1.1.2⟩⟩)⟩, ⟨by (with_reducible repeat (first | apply Kd.R_alloc | apply Kd.R_drewN | apply Kd.R_drew)); exact Kd.R_mono (Kd.R_far (p := ⟨gb334, 3, none⟩) (Kd.R_far (p := ⟨gb334, 2, none⟩) (Kd.R_far (p := ⟨gb334, 1, none⟩) (Kd.R_far (p := ⟨gb334, 0, none⟩) (Kd.R_types HO326.out BK334.out (by decide)) (fun _ hk => hk.2) (.slice Ao18 t321.length co18)) (fun _ hk => hk.2) (.slice Ao20 t324.length co20)) (fun _ hk => hk.2) (.slice Ao21 t327.length co21)) (fun _ hk => hk.2) (.slice Ao22 t330.length co22)) (fun _ hk => trivial)⟩, ⟨by (with_reducible repeat (first | apply Kd.R_alloc | apply Kd.R_drewN | apply Kd.R_drew)); exact Kd.R_mono (Kd.R_far (p := ⟨gb334, 3, none⟩) (Kd.R_far (p := ⟨gb334, 2, none⟩) (Kd.R_far (p := ⟨gb334, 1, none⟩) (Kd.R_far (p := ⟨gb334, 0, none⟩) (Kd.R_types HO329.out BK334.out (by decide)) (fun _ hk => hk.2) (.slice Ao18 t321.length co18)) (fun _ hk => hk.2) (.slice Ao20 t324.length co20)) (fun _ hk => hk.2) (.slice Ao21 t327.length co21)) (fun _ hk => hk.2) (.slice Ao22 t330.length co22)) (fun _ hk => ⟨hk.1.2, ⟨hk.1.1.1, hk.1.1.2⟩⟩)⟩, ⟨by (with_reducible repeat (first | apply Kd.R_alloc | apply Kd.R_drewN | apply Kd.R_drew)); exact Kd.R_mono (Kd.R_far (p := ⟨gb334, 3, none⟩) (Kd.R_far (p := ⟨gb334, 2, none⟩) (Kd.R_far (p := ⟨gb334, 1, none⟩) (Kd.R_far (p := ⟨gb334, 0, none⟩) (Kd.R_types HO332.out BK334.out (by decide)) (fun _ hk => hk.2) (.slice Ao18 t321.length co18)) (fun _ hk => hk.2) (.slice Ao20 t324.length co20)) (fun _ hk => hk.2) (.slice Ao21 t327.length co21)) (fun _ hk => hk.2) (.slice Ao22 t330.length co22)) (fun _ hk => ⟨hk.1.2, ⟨hk.1.1.1, hk.1.1.2⟩⟩)⟩, ⟨by (with_reducible repeat (first | refine blk_drewN ?_ _ | refine blk_drew ?_ | refine blk_alloc ?_ _)); refine blk_put (cs := #[.slice Ao18 t321.length co18, .slice Ao20 t324.length co20, .slice Ao21 t327.length co21, .slice none 0 0]) ?_ 3 _ rfl; (with_reducible repeat (first | refine blk_drewN ?_ _ | refine blk_drew ?_ | refine blk_alloc ?_ _)); refine blk_put (cs := #[.slice Ao18 t321.length co18, .slice Ao20 t324.length co20, .slice none 0 0, .slice none 0 0]) ?_ 2 _ rfl; (with_reducible repeat (first | refine blk_drewN ?_ _ | refine blk_drew ?_ | refine blk_alloc ?_ _)); refine blk_put (cs := #[.slice Ao18 t321.length co18, .slice none 0 0, .slice none 0 0, .slice none 0 0]) ?_ 1 _ rfl; (with_reducible repeat (first | refine blk_drewN ?_ _ | refine blk_drew ?_ | refine blk_alloc ?_ _)); refine blk_put (cs := #[.slice none 0 0, .slice none 0 0, .slice none 0 0, .slice none 0 0]) ?_ 0 _ rfl; (with_reducible repeat (first | refine blk_drewN ?_ _ | refine blk_drew ?_ | refine blk_alloc ?_ _)); exact BK334.out⟩, ⟨by repeat (first | (with_reducible first | exact HB.out | apply below_alloc | apply pw_below_drewN | apply below_drew1 | refine below_set ?_ GE334.out) | exact HB.out)⟩⟩
  rw [if_pos c25] at H
  have c25b0 : ((t330.length : Int) == (t318.length : Int)) = true := beq_iff_eq.mpr c25
  have c25b1 : ((t330.length : Int) != (t318.length : Int)) = false := bne_eq_false_iff_eq.mpr c25
  have c25b2 : (t330.length == t318.length) = true := by first | simpa using c25 | (simp at c25 ⊢; omega)
  clear c25
  replace H := Option.bind_eq_some_iff.mp H
  obtain ⟨t335, A260, H⟩ := H
  replace H : (letterbaglaw28_SequenceExact.j0 k l2 t315 t318 (!t335) t321 t324 t327 t330) = some r := H
  have A26 := Aside0.mk A260
  clear A260
  have H' := Aside0.mk H
  clear H
  have hcz27_0 : w17.cell? ⟨gb334, 0, none⟩ = some (.slice none 0 0) := (blk_cell BK334.out 0).trans rfl
  have hcz27_1 : w17.cell? ⟨gb334, 1, none⟩ = some (.slice none 0 0) := (blk_cell BK334.out 1).trans rfl
  have hcz27_2 : w17.cell? ⟨gb334, 2, none⟩ = some (.slice none 0 0) := (blk_cell BK334.out 2).trans rfl
  have hcz27_3 : w17.cell? ⟨gb334, 3, none⟩ = some (.slice none 0 0) := (blk_cell BK334.out 3).trans rfl
  have hfz27_0 := blk_frozen BK334.out 0
  have hfz27_1 := blk_frozen BK334.out 1
  have hfz27_2 := blk_frozen BK334.out 2
  have hfz27_3 := blk_frozen BK334.out 3
  go_wp2_with (first | (go_at_call 21; (with_reducible refine (letterbagkit_SameInts.calls k _ _ t321 _ _ t318 t335 _ ?side1 ?side2 ?side3 ?side4 A26.out).mono ?_); (case side1 => refine (Kd.R_reads' (e := 3) (base := w.heap.size) (ok := fun k_ => ((some k_ ≠ (.slice Ao21 t327.length co21 : Value).ownBlock ∧ some k_ ≠ (.slice Ao22 t330.length co22 : Value).ownBlock) ∧ some k_ ≠ (.slice Ao15 t318.length co15 : Value).ownBlock)) (n := t321.length) (c := co18) ?_).2.2; exact (by (with_reducible repeat (first | apply Kd.R_alloc | apply Kd.R_drewN | apply Kd.R_drew)); exact (Kd.R_mono (Kd.R_far (p := ⟨gb334, 3, none⟩) (Kd.R_far (p := ⟨gb334, 2, none⟩) (Kd.R_far (p := ⟨gb334, 1, none⟩) (Kd.R_far (p := ⟨gb334, 0, none⟩) (Kd.R_types HO323.out BK334.out (by decide)) (fun _ hk => hk.2) (.slice Ao18 t321.length co18)) (fun _ hk => hk.2) (.slice Ao20 t324.length co20)) (fun _ hk => hk.2) (.slice Ao21 t327.length co21)) (fun _ hk => hk.2) (.slice Ao22 t330.length co22)) (fun _ h_ => h_.1)))); (case side2 => exact (Kd.R_reads' HO323.out).2.1); (case side3 => refine (Kd.R_reads' (e := 3) (base := w.heap.size) (ok := fun k_ => (((True ∧ some k_ ≠ (.slice Ao18 t321.length co18 : Value).ownBlock) ∧ some k_ ≠ (.slice Ao21 t327.length co21 : Value).ownBlock) ∧ some k_ ≠ (.slice Ao22 t330.length co22 : Value).ownBlock)) (n := t318.length) (c := co15) ?_).2.2; exact (by (with_reducible repeat (first | apply Kd.R_alloc | apply Kd.R_drewN | apply Kd.R_drew)); exact (Kd.R_mono (Kd.R_far (p := ⟨gb334, 3, none⟩) (Kd.R_far (p := ⟨gb334, 2, none⟩) (Kd.R_far (p := ⟨gb334, 1, none⟩) (Kd.R_far (p := ⟨gb334, 0, none⟩) (Kd.R_types HO320.out BK334.out (by decide)) (fun _ hk => hk.2) (.slice Ao18 t321.length co18)) (fun _ hk => hk.2) (.slice Ao20 t324.length co20)) (fun _ hk => hk.2) (.slice Ao21 t327.length co21)) (fun _ hk => hk.2) (.slice Ao22 t330.length co22)) (fun _ h_ => h_.1)))); (case side4 => exact (Kd.R_reads' HO320.out).2.1); rintro e w' ⟨rfl, ⟨nd, rfl⟩⟩; (try first | exact ⟨rfl, _, World.drewN_drewN _ _ _⟩ | exact ⟨rfl, _, Eq.trans (World.drewN_drewN _ _ _) (congrArg (World.drewN _) (Nat.add_assoc _ _ _))⟩)))
  go_meet
  case rel => exact ⟨_, (!t335), (by first | rfl | (simp; done) | (simp [*]; done)), H', ⟨by first | omega | exact Nat.le_refl _⟩, ⟨by (with_reducible repeat (first | apply Kd.R_alloc | apply Kd.R_drewN | apply Kd.R_drew)); exact Kd.R_mono (Kd.R_far (p := ⟨gb334, 3, none⟩) (Kd.R_far (p := ⟨gb334, 2, none⟩) (Kd.R_far (p := ⟨gb334, 1, none⟩) (Kd.R_far (p := ⟨gb334, 0, none⟩) (Kd.R_types HO317.out BK334.out (by decide)) (fun _ hk => hk.2) (.slice Ao18 t321.length co18)) (fun _ hk => hk.2) (.slice Ao20 t324.length co20)) (fun _ hk => hk.2) (.slice Ao21 t327.length co21)) (fun _ hk => hk.2) (.slice Ao22 t330.length co22)) (fun _ hk => trivial)⟩, ⟨by (with_reducible repeat (first | apply Kd.R_alloc | apply Kd.R_drewN | apply Kd.R_drew)); exact Kd.R_mono (Kd.R_far (p := ⟨gb334, 3, none⟩) (Kd.R_far (p := ⟨gb334, 2, none⟩) (Kd.R_far (p := ⟨gb334, 1, none⟩) (Kd.R_far (p := ⟨gb334, 0, none⟩) (Kd.R_types HO320.out BK334.out (by decide)) (fun _ hk => hk.2) (.slice Ao18 t321.length co18)) (fun _ hk => hk.2) (.slice Ao20 t324.length co20)) (fun _ hk => hk.2) (.slice Ao21 t327.length co21)) (fun _ hk => hk.2) (.slice Ao22 t330.length co22)) (fun _ hk => ⟨hk.1.1.1.2, ⟨hk.1.1.2, hk.1.2⟩⟩)⟩, ⟨by (with_reducible repeat (first | apply Kd.R_alloc | apply Kd.R_drewN | apply Kd.R_drew)); exact Kd.R_mono (Kd.R_far (p := ⟨gb334, 3, none⟩) (Kd.R_far (p := ⟨gb334, 2, none⟩) (Kd.R_far (p := ⟨gb334, 1, none⟩) (Kd.R_far (p := ⟨gb334, 0, none⟩) (Kd.R_types HO323.out BK334.out (by decide)) (fun _ hk => hk.2) (.slice Ao18 t321.length co18)) (fun _ hk => hk.2) (.slice Ao20 t324.length co20)) (fun _ hk => hk.2) (.slice Ao21 t327.length co21)) (fun _ hk => hk.2) (.slice Ao22 t330.length co22)) (fun _ hk => ⟨hk.1.2, ⟨hk.1.1.1, hk.1.1.2⟩⟩)⟩, ⟨by (with_reducible repeat (first | apply Kd.R_alloc | apply Kd.R_drewN | apply Kd.R_drew)); exact Kd.R_mono (Kd.R_far (p := ⟨gb334, 3, none⟩) (Kd.R_far (p := ⟨gb334, 2, none⟩) (Kd.R_far (p := ⟨gb334, 1, none⟩) (Kd.R_far (p := ⟨gb334, 0, none⟩) (Kd.R_types HO326.out BK334.out (by decide)) (fun _ hk => hk.2) (.slice Ao18 t321.length co18)) (fun _ hk => hk.2) (.slice Ao20 t324.length co20)) (fun _ hk => hk.2) (.slice Ao21 t327.length co21)) (fun _ hk => hk.2) (.slice Ao22 t330.length co22)) (fun _ hk => trivial)⟩, ⟨by (with_reducible repeat (first | apply Kd.R_alloc | apply Kd.R_drewN | apply Kd.R_drew)); exact Kd.R_mono (Kd.R_far (p := ⟨gb334, 3, none⟩) (Kd.R_far (p := ⟨gb334, 2, none⟩) (Kd.R_far (p := ⟨gb334, 1, none⟩) (Kd.R_far (p := ⟨gb334, 0, none⟩) (Kd.R_types HO329.out BK334.out (by decide)) (fun _ hk => hk.2) (.slice Ao18 t321.length co18)) (fun _ hk => hk.2) (.slice Ao20 t324.length co20)) (fun _ hk => hk.2) (.slice Ao21 t327.length co21)) (fun _ hk => hk.2) (.slice Ao22 t330.length co22)) (fun _ hk => ⟨hk.1.2, ⟨hk.1.1.1, hk.1.1.2⟩⟩)⟩, ⟨by (with_reducible repeat (first | apply Kd.R_alloc | apply Kd.R_drewN | apply Kd.R_drew)); exact Kd.R_mono (Kd.R_far (p := ⟨gb334, 3, none⟩) (Kd.R_far (p := ⟨gb334, 2, none⟩) (Kd.R_far (p := ⟨gb334, 1, none⟩) (Kd.R_far (p := ⟨gb334, 0, none⟩) (Kd.R_types HO332.out BK334.out (by decide)) (fun _ hk => hk.2) (.slice Ao18 t321.length co18)) (fun _ hk => hk.2) (.slice Ao20 t324.length co20)) (fun _ hk => hk.2) (.slice Ao21 t327.length co21)) (fun _ hk => hk.2) (.slice Ao22 t330.length co22)) (fun _ hk => ⟨hk.1.2, ⟨hk.1.1.1, hk.1.1.2⟩⟩)⟩, ⟨by (with_reducible repeat (first | refine blk_drewN ?_ _ | refine blk_drew ?_ | refine blk_alloc ?_ _)); refine blk_put (cs := #[.slice Ao18 t321.length co18, .slice Ao20 t324.length co20, .slice Ao21 t327.length co21, .slice none 0 0]) ?_ 3 _ rfl; (with_reducible repeat (first | refine blk_drewN ?_ _ | refine blk_drew ?_ | refine blk_alloc ?_ _)); refine blk_put (cs := #[.slice Ao18 t321.length co18, .slice Ao20 t324.length co20, .slice none 0 0, .slice none 0 0]) ?_ 2 _ rfl; (with_reducible repeat (first | refine blk_drewN ?_ _ | refine blk_drew ?_ | refine blk_alloc ?_ _)); refine blk_put (cs := #[.slice Ao18 t321.length co18, .slice none 0 0, .slice none 0 0, .slice none 0 0]) ?_ 1 _ rfl; (with_reducible repeat (first | refine blk_drewN ?_ _ | refine blk_drew ?_ | refine blk_alloc ?_ _)); refine blk_put (cs := #[.slice none 0 0, .slice none 0 0, .slice none 0 0, .slice none 0 0]) ?_ 0 _ rfl; (with_reducible repeat (first | refine blk_drewN ?_ _ | refine blk_drew ?_ | refine blk_alloc ?_ _)); exact BK334.out⟩, ⟨by repeat (first | (with_reducible first | exact HB.out | apply below_alloc | apply pw_below_drewN | apply below_drew1 | refine below_set ?_ GE334.out) | exact HB.out)⟩⟩
 case rest => as_aux_lemma =>
  clear HC10; (try clear c1); (try clear c2); (try clear p2); (try clear c4); (try clear c5); (try clear c9); (try clear c9b0); (try clear c9b1); (try clear c23); (try clear c23b0); (try clear c23b1); (try clear c23b2); (try clear c24); (try clear c24b0); (try clear c24b1); (try clear c24b2); (try clear c25); (try clear c25b0); (try clear c25b1); (try clear c25b2); (try clear hcz19_0); (try clear hcz19_1); (try clear hcz19_2); (try clear hcz19_3); (try clear hcz27_0); (try clear hcz27_1); (try clear hcz27_2); (try clear hcz27_3); (try clear hcz28_0); (try clear hcz28_1); (try clear hcz28_2); (try clear hcz28_3); (try clear hcz29_0); (try clear hcz29_1); (try clear hcz29_2); (try clear hcz29_3)
  (try clear hcz30_0); (try clear hcz30_1); (try clear hcz30_2); (try clear hcz30_3); (try clear hfz19_0); (try clear hfz19_1); (try clear hfz19_2); (try clear hfz19_3); (try clear hfz27_0); (try clear hfz27_1); (try clear hfz27_2); (try clear hfz27_3); (try clear hfz28_0); (try clear hfz28_1); (try clear hfz28_2); (try clear hfz28_3); (try clear hfz29_0); (try clear hfz29_1); (try clear hfz29_2); (try clear hfz29_3); (try clear hfz30_0); (try clear hfz30_1); (try clear hfz30_2); (try clear hfz30_3)
  obtain ⟨kq, x70_9, rfl, HA, HJ9, HO_7, HO_8, HO_335000, HO_335001, HO_335002, HO_335003, BK334, HB⟩ := hcut
  cases kq with
  | zero => exact absurd HA.out (by simp [letterbaglaw28_SequenceExact.j0])
  | succ kj9 =>
   have H := HA.out; clear HA
   simp only [letterbaglaw28_SequenceExact.j0] at H
   by_cases c31 : x70_9 = true
   ·subst c31
    have H1 : (some false) = some r := by rw [if_pos rfl] at H; exact H
    clear H; have H := H1; clear H1
    obtain rfl := Option.some.inj H
    go_wp2
    repeat (go_quiet (fail); try go_wp2)
    go_ret
    exact ⟨by first | rfl | (simp [errW_none, errW_some] <;> rfl) | (simp [*, errW_none, errW_some] <;> rfl), by repeat (first | (with_reducible first | exact HB.out | apply below_alloc | apply pw_below_drewN | apply below_drew1 | refine below_set ?_ GE334.out) | exact HB.out)⟩
   replace c31 := Bool.eq_false_iff.mpr c31
   subst c31
   have H1 : ((letterbaglaw28_feed.f t315 l2).bind fun t336 => ((sequence_Sort.f t321 t324 t327 t330 t336).bind fun bt339 => (if bt339.2.2.2 = 0 then (if (bt339.2.2.1.length : Int) = (t336.length : Int) then (if (bt339.1.length : Int) = (t318.length : Int) then (letterbaglaw28_SequenceExact.j1 kj9 t315 t318 t336 ((bt339.2.1.length : Int) != (t318.length : Int)) t321 t324 t327 t330 bt339.1 bt339.2.1 bt339.2.2.1) else (letterbaglaw28_SequenceExact.j1 kj9 t315 t318 t336 true t321 t324 t327 t330 bt339.1 bt339.2.1 bt339.2.2.1)) else (letterbaglaw28_SequenceExact.j1 kj9 t315 t318 t336 true t321 t324 t327 t330 bt339.1 bt339.2.1 bt339.2.2.1)) else (letterbaglaw28_SequenceExact.j1 kj9 t315 t318 t336 true t321 t324 t327 t330 bt339.1 bt339.2.1 bt339.2.2.1)))) = some r := by rw [if_neg (show ¬ (false = true) by decide)] at H; exact H
   clear H; have H := H1; clear H1
   replace H := Option.bind_eq_some_iff.mp H
   obtain ⟨t336, A320, H⟩ := H
   replace H : ((sequence_Sort.f t321 t324 t327 t330 t336).bind fun bt339 => (if bt339.2.2.2 = 0 then (if (bt339.2.2.1.length : Int) = (t336.length : Int) then (if (bt339.1.length : Int) = (t318.length : Int) then (letterbaglaw28_SequenceExact.j1 kj9 t315 t318 t336 ((bt339.2.1.length : Int) != (t318.length : Int)) t321 t324 t327 t330 bt339.1 bt339.2.1 bt339.2.2.1) else (letterbaglaw28_SequenceExact.j1 kj9 t315 t318 t336 true t321 t324 t327 t330 bt339.1 bt339.2.1 bt339.2.2.1)) else (letterbaglaw28_SequenceExact.j1 kj9 t315 t318 t336 true t321 t324 t327 t330 bt339.1 bt339.2.1 bt339.2.2.1)) else (letterbaglaw28_SequenceExact.j1 kj9 t315 t318 t336 true t321 t324 t327 t330 bt339.1 bt339.2.1 bt339.2.2.1))) = some r := H
   have A32 := Aside0.mk A320
   clear A320
   replace H := Option.bind_eq_some_iff.mp H
   obtain ⟨⟨t339, t342, t345, t348⟩, A330, H⟩ := H
   replace H : (if t348 = 0 then (if (t345.length : Int) = (t336.length : Int) then (if (t339.length : Int) = (t318.length : Int) then (letterbaglaw28_SequenceExact.j1 kj9 t315 t318 t336 ((t342.length : Int) != (t318.length : Int)) t321 t324 t327 t330 t339 t342 t345) else (letterbaglaw28_SequenceExact.j1 kj9 t315 t318 t336 true t321 t324 t327 t330 t339 t342 t345)) else (letterbaglaw28_SequenceExact.j1 kj9 t315 t318 t336 true t321 t324 t327 t330 t339 t342 t345)) else (letterbaglaw28_SequenceExact.j1 kj9 t315 t318 t336 true t321 t324 t327 t330 t339 t342 t345)) = some r := H
   have A33 := Aside0.mk A330
   clear A330
   have HC34 := Aside0.mk H
   clear H
   go_upto_region 11 with (first | (go_at_call 22; (with_reducible refine (letterbaglaw28_feed.calls _ _ t315 _ _ l2 t336 _ ?side1 ?side2 ?side3 ?side4 A32.out).mono ?_); (case side1 => repeat (first | exact (Kd.R_reads' HO_7.out).2.2 | (with_reducible refine Kd.C_alloc ?_ _) | (with_reducible refine Kd.C_drewN ?_ _) | (with_reducible refine Kd.C_drew ?_))); (case side2 => exact (Kd.R_reads' HO_7.out).2.1); (case side3 => repeat (first | exact (Kd.C_below HR2.out HB.out) | (with_reducible refine Kd.C_alloc ?_ _) | (with_reducible refine Kd.C_drewN ?_ _) | (with_reducible refine Kd.C_drew ?_))); (case side4 => exact HC2.out); rintro e w35 ⟨v337, rfl, ho0, hb⟩; have n0_ := Aside0.mk (Kd.R_below (by (with_reducible repeat (first | apply Kd.R_alloc | apply Kd.R_drewN | apply Kd.R_drew)); exact HO_7.out) hb); have n1_ := Aside0.mk (Kd.R_elder' (by (with_reducible repeat (first | apply Kd.R_alloc | apply Kd.R_drewN | apply Kd.R_drew)); exact HO_8.out) (Kd.R_base ho0) hb); have n2_ := Aside0.mk (Kd.R_elder' (by (with_reducible repeat (first | apply Kd.R_alloc | apply Kd.R_drewN | apply Kd.R_drew)); exact HO_335000.out) (Kd.R_base ho0) hb); have n3_ := Aside0.mk (Kd.R_below (by (with_reducible repeat (first | apply Kd.R_alloc | apply Kd.R_drewN | apply Kd.R_drew)); exact HO_335001.out) hb); have n4_ := Aside0.mk (Kd.R_elder' (by (with_reducible repeat (first | apply Kd.R_alloc | apply Kd.R_drewN | apply Kd.R_drew)); exact HO_335002.out) (Kd.R_base ho0) hb); have n5_ := Aside0.mk (Kd.R_elder' (by (with_reducible repeat (first | apply Kd.R_alloc | apply Kd.R_drewN | apply Kd.R_drew)); exact HO_335003.out) (Kd.R_base ho0) hb); have n6_ := Aside0.mk (Kd.R_lower (Kd.R_new' (Kd.R_new' (Kd.R_new' (Kd.R_new' ho0 (Kd.R_lt (by (with_reducible repeat (first | apply Kd.R_alloc | apply Kd.R_drewN | apply Kd.R_drew)); exact HO_8.out))) (Kd.R_lt (by (with_reducible repeat (first | apply Kd.R_alloc | apply Kd.R_drewN | apply Kd.R_drew)); exact HO_335000.out))) (Kd.R_lt (by (with_reducible repeat (first | apply Kd.R_alloc | apply Kd.R_drewN | apply Kd.R_drew)); exact HO_335002.out))) (Kd.R_lt (by (with_reducible repeat (first | apply Kd.R_alloc | apply Kd.R_drewN | apply Kd.R_drew)); exact HO_335003.out))) (below_size (by repeat (first | (with_reducible first | exact HB.out | apply below_alloc | apply pw_below_drewN | apply below_drew1 | refine below_set ?_ GE334.out) | exact HB.out)))); have n7_ := Aside0.mk (blk_below (g := gb334) (o := .cells #[.slice Ao18 t321.length co18, .slice Ao20 t324.length co20, .slice Ao21 t327.length co21, .slice Ao22 t330.length co22] 38 (0, 0)) (by (with_reducible repeat (first | refine blk_drewN ?_ _ | refine blk_drew ?_ | refine blk_alloc ?_ _)); exact BK334.out) hb); have n8_ := Aside0.mk (below_step (by repeat (first | (with_reducible first | exact HB.out | apply below_alloc | apply pw_below_drewN | apply below_drew1 | refine below_set ?_ GE334.out) | exact HB.out)) hb); clear HO_7; clear HO_8; clear HO_335000; clear HO_335001; clear HO_335002; clear HO_335003; clear BK334; clear HB; have HO_7 := n0_; have HO_8 := n1_; have HO_335000 := n2_; have HO_335001 := n3_; have HO_335002 := n4_; have HO_335003 := n5_; have HO338 := n6_; have BK334 := n7_; have HB := n8_; clear n0_ n1_ n2_ n3_ n4_ n5_ n6_ n7_ n8_; (try clear hb); (try clear hb2); (try clear hk); (try clear hi); (try clear ho0); have hcz36_0 : w35.cell? ⟨gb334, 0, none⟩ = some (.slice Ao18 t321.length co18) := (blk_cell BK334.out 0).trans rfl; have hcz36_1 : w35.cell? ⟨gb334, 1, none⟩ = some (.slice Ao20 t324.length co20) := (blk_cell BK334.out 1).trans rfl; have hcz36_2 : w35.cell? ⟨gb334, 2, none⟩ = some (.slice Ao21 t327.length co21) := (blk_cell BK334.out 2).trans rfl; have hcz36_3 : w35.cell? ⟨gb334, 3, none⟩ = some (.slice Ao22 t330.length co22) := (blk_cell BK334.out 3).trans rfl; have hfz36_0 := blk_frozen BK334.out 0; have hfz36_1 := blk_frozen BK334.out 1; have hfz36_2 := blk_frozen BK334.out 2; have hfz36_3 := blk_frozen BK334.out 3; obtain ⟨Ao37, co37, eo37⟩ := Kd.R_slice HO338.out; subst eo37) | (go_at_call 23; (with_reducible refine (sequence_Sort.calls _ _ t321 _ _ t324 _ _ t327 _ _ t330 _ _ t336 t339 t342 t345 t348 _ ?side1 ?side2 ?side3 ?side4 ?side5 ?side6 ?side7 ?side8 ?side9 ?side10 A33.out).mono ?_); (case side1 => repeat (first | exact (Kd.R_reads' HO_335000.out).2.2 | (with_reducible refine Kd.C_alloc ?_ _) | (with_reducible refine Kd.C_drewN ?_ _) | (with_reducible refine Kd.C_drew ?_))); (case side2 => exact (Kd.R_reads' HO_335000.out).2.1); (case side3 => repeat (first | exact (Kd.R_reads' HO_335001.out).2.2 | (with_reducible refine Kd.C_alloc ?_ _) | (with_reducible refine Kd.C_drewN ?_ _) | (with_reducible refine Kd.C_drew ?_))); (case side4 => exact (Kd.R_reads' HO_335001.out).2.1); (case side5 => repeat (first | exact (Kd.R_reads' HO_335002.out).2.2 | (with_reducible refine Kd.C_alloc ?_ _) | (with_reducible refine Kd.C_drewN ?_ _) | (with_reducible refine Kd.C_drew ?_))); (case side6 => exact (Kd.R_reads' HO_335002.out).2.1); (case side7 => repeat (first | exact (Kd.R_reads' HO_335003.out).2.2 | (with_reducible refine Kd.C_alloc ?_ _) | (with_reducible refine Kd.C_drewN ?_ _) | (with_reducible refine Kd.C_drew ?_))); (case side8 => exact (Kd.R_reads' HO_335003.out).2.1); (case side9 => repeat (first | exact (Kd.R_reads' HO338.out).2.2 | (with_reducible refine Kd.C_alloc ?_ _) | (with_reducible refine Kd.C_drewN ?_ _) | (with_reducible refine Kd.C_drew ?_))); (case side10 => exact (Kd.R_reads' HO338.out).2.1); rintro e w38 ⟨v340, v343, v346, rfl, ho0, ho1, ho2, hb⟩; have n0_ := Aside0.mk (Kd.R_below (by (with_reducible repeat (first | apply Kd.R_alloc | apply Kd.R_drewN | apply Kd.R_drew)); exact HO_7.out) hb); have n1_ := Aside0.mk (Kd.R_elder' (by (with_reducible repeat (first | apply Kd.R_alloc | apply Kd.R_drewN | apply Kd.R_drew)); exact HO_8.out) (Kd.R_base ho2) hb); have n2_ := Aside0.mk (Kd.R_elder' (by (with_reducible repeat (first | apply Kd.R_alloc | apply Kd.R_drewN | apply Kd.R_drew)); exact HO_335000.out) (Kd.R_base ho2) hb); have n3_ := Aside0.mk (Kd.R_below (by (with_reducible repeat (first | apply Kd.R_alloc | apply Kd.R_drewN | apply Kd.R_drew)); exact HO_335001.out) hb); have n4_ := Aside0.mk (Kd.R_elder' (by (with_reducible repeat (first | apply Kd.R_alloc | apply Kd.R_drewN | apply Kd.R_drew)); exact HO_335002.out) (Kd.R_base ho2) hb); have n5_ := Aside0.mk (Kd.R_elder' (by (with_reducible repeat (first | apply Kd.R_alloc | apply Kd.R_drewN | apply Kd.R_drew)); exact HO_335003.out) (Kd.R_base ho2) hb); have n6_ := Aside0.mk (Kd.R_elder' (by (with_reducible repeat (first | apply Kd.R_alloc | apply Kd.R_drewN | apply Kd.R_drew)); exact HO338.out) (Kd.R_base ho2) hb); have n7_ := Aside0.mk (Kd.S_lower (Kd.S_new' (Kd.S_new' (Kd.S_new' (Kd.S_new' (Kd.S_new' ho0 (Kd.R_lt (by (with_reducible repeat (first | apply Kd.R_alloc | apply Kd.R_drewN | apply Kd.R_drew)); exact HO_8.out))) (Kd.R_lt (by (with_reducible repeat (first | apply Kd.R_alloc | apply Kd.R_drewN | apply Kd.R_drew)); exact HO_335000.out))) (Kd.R_lt (by (with_reducible repeat (first | apply Kd.R_alloc | apply Kd.R_drewN | apply Kd.R_drew)); exact HO_335002.out))) (Kd.R_lt (by (with_reducible repeat (first | apply Kd.R_alloc | apply Kd.R_drewN | apply Kd.R_drew)); exact HO_335003.out))) (Kd.R_lt (by (with_reducible repeat (first | apply Kd.R_alloc | apply Kd.R_drewN | apply Kd.R_drew)); exact HO338.out))) (below_size (by repeat (first | (with_reducible first | exact HB.out | apply below_alloc | apply pw_below_drewN | apply below_drew1 | refine below_set ?_ GE334.out) | exact HB.out)))); have n8_ := Aside0.mk (Kd.S_lower (Kd.S_new' (Kd.S_new' (Kd.S_new' (Kd.S_new' (Kd.S_new' ho1 (Kd.R_lt (by (with_reducible repeat (first | apply Kd.R_alloc | apply Kd.R_drewN | apply Kd.R_drew)); exact HO_8.out))) (Kd.R_lt (by (with_reducible repeat (first | apply Kd.R_alloc | apply Kd.R_drewN | apply Kd.R_drew)); exact HO_335000.out))) (Kd.R_lt (by (with_reducible repeat (first | apply Kd.R_alloc | apply Kd.R_drewN | apply Kd.R_drew)); exact HO_335002.out))) (Kd.R_lt (by (with_reducible repeat (first | apply Kd.R_alloc | apply Kd.R_drewN | apply Kd.R_drew)); exact HO_335003.out))) (Kd.R_lt (by (with_reducible repeat (first | apply Kd.R_alloc | apply Kd.R_drewN | apply Kd.R_drew)); exact HO338.out))) (below_size (by repeat (first | (with_reducible first | exact HB.out | apply below_alloc | apply pw_below_drewN | apply below_drew1 | refine below_set ?_ GE334.out) | exact HB.out)))); have n9_ := Aside0.mk (Kd.R_lower (Kd.R_new' (Kd.R_new' (Kd.R_new' (Kd.R_new' (Kd.R_new' ho2 (Kd.R_lt (by (with_reducible repeat (first | apply Kd.R_alloc | apply Kd.R_drewN | apply Kd.R_drew)); exact HO_8.out))) (Kd.R_lt (by (with_reducible repeat (first | apply Kd.R_alloc | apply Kd.R_drewN | apply Kd.R_drew)); exact HO_335000.out))) (Kd.R_lt (by (with_reducible repeat (first | apply Kd.R_alloc | apply Kd.R_drewN | apply Kd.R_drew)); exact HO_335002.out))) (Kd.R_lt (by (with_reducible repeat (first | apply Kd.R_alloc | apply Kd.R_drewN | apply Kd.R_drew)); exact HO_335003.out))) (Kd.R_lt (by (with_reducible repeat (first | apply Kd.R_alloc | apply Kd.R_drewN | apply Kd.R_drew)); exact HO338.out))) (below_size (by repeat (first | (with_reducible first | exact HB.out | apply below_alloc | apply pw_below_drewN | apply below_drew1 | refine below_set ?_ GE334.out) | exact HB.out)))); have n10_ := Aside0.mk (blk_below (g := gb334) (o := .cells #[.slice Ao18 t321.length co18, .slice Ao20 t324.length co20, .slice Ao21 t327.length co21, .slice Ao22 t330.length co22] 38 (0, 0)) (by (with_reducible repeat (first | refine blk_drewN ?_ _ | refine blk_drew ?_ | refine blk_alloc ?_ _)); exact BK334.out) hb); have n11_ := Aside0.mk (below_step (by repeat (first | (with_reducible first | exact HB.out | apply below_alloc | apply pw_below_drewN | apply below_drew1 | refine below_set ?_ GE334.out) | exact HB.out)) hb); clear HO_7; clear HO_8; clear HO_335000; clear HO_335001; clear HO_335002; clear HO_335003; clear HO338; clear BK334; clear HB; have HO_7 := n0_; have HO_8 := n1_; have HO_335000 := n2_; have HO_335001 := n3_; have HO_335002 := n4_; have HO_335003 := n5_; have HO338 := n6_; have HO341 := n7_; have HO344 := n8_; have HO347 := n9_; have BK334 := n10_; have HB := n11_; clear n0_ n1_ n2_ n3_ n4_ n5_ n6_ n7_ n8_ n9_ n10_ n11_; (try clear hb); (try clear hb2); (try clear hk); (try clear hi); (try clear ho0); (try clear ho1); (try clear ho2)) | ((with_reducible refine gate_dst (N := 12) rfl ?_); (try (refine gate_guard (by rfl) ?_; dsimp only)); refine box_event ?hg (N := 12) ?hd (cs := #[.slice none 0 0, .slice none 0 0, .slice none 0 0]) (t := 50) ?hr ?_; (case hd => rfl); (case hg => rfl); (case hr => first | (go_simp; done) | (go_simp; rfl)); intro gb349 hg w39 hbox hb; have n0_ := Aside0.mk (Kd.R_below (by (with_reducible repeat (first | apply Kd.R_alloc | apply Kd.R_drewN | apply Kd.R_drew)); exact HO_7.out) hb); have n1_ := Aside0.mk (Kd.R_below (by (with_reducible repeat (first | apply Kd.R_alloc | apply Kd.R_drewN | apply Kd.R_drew)); exact HO_8.out) hb); have n2_ := Aside0.mk (Kd.R_below (by (with_reducible repeat (first | apply Kd.R_alloc | apply Kd.R_drewN | apply Kd.R_drew)); exact HO_335000.out) hb); have n3_ := Aside0.mk (Kd.R_below (by (with_reducible repeat (first | apply Kd.R_alloc | apply Kd.R_drewN | apply Kd.R_drew)); exact HO_335001.out) hb); have n4_ := Aside0.mk (Kd.R_below (by (with_reducible repeat (first | apply Kd.R_alloc | apply Kd.R_drewN | apply Kd.R_drew)); exact HO_335002.out) hb); have n5_ := Aside0.mk (Kd.R_below (by (with_reducible repeat (first | apply Kd.R_alloc | apply Kd.R_drewN | apply Kd.R_drew)); exact HO_335003.out) hb); have n6_ := Aside0.mk (Kd.R_below (by (with_reducible repeat (first | apply Kd.R_alloc | apply Kd.R_drewN | apply Kd.R_drew)); exact HO338.out) hb); have n7_ := Aside0.mk (Kd.S_below (by (with_reducible repeat (first | apply Kd.S_alloc | apply Kd.S_drewN | apply Kd.S_drew)); exact HO341.out) hb); have n8_ := Aside0.mk (Kd.S_below (by (with_reducible repeat (first | apply Kd.S_alloc | apply Kd.S_drewN | apply Kd.S_drew)); exact HO344.out) hb); have n9_ := Aside0.mk (Kd.R_below (by (with_reducible repeat (first | apply Kd.R_alloc | apply Kd.R_drewN | apply Kd.R_drew)); exact HO347.out) hb); have n10_ := Aside0.mk (blk_below (g := gb334) (o := .cells #[.slice Ao18 t321.length co18, .slice Ao20 t324.length co20, .slice Ao21 t327.length co21, .slice Ao22 t330.length co22] 38 (0, 0)) (by (with_reducible repeat (first | refine blk_drewN ?_ _ | refine blk_drew ?_ | refine blk_alloc ?_ _)); exact BK334.out) hb); have n11_ := Aside0.mk (below_step (by repeat (first | (with_reducible first | exact HB.out | apply below_alloc | apply pw_below_drewN | apply below_drew1 | refine below_set ?_ GE334.out) | exact HB.out)) hb); have n12_ := Aside0.mk (hbox); have n13_ := Aside0.mk ((by rw [hg]; exact (below_size (by repeat (first | (with_reducible first | exact HB.out | apply below_alloc | apply pw_below_drewN | apply below_drew1 | refine below_set ?_ GE334.out) | exact HB.out))) : w.heap.size ≤ gb349)); have n14_ := Aside0.mk ((by rw [hg]; exact (below_size (by repeat (first | (with_reducible first | exact HB.out | apply below_alloc | apply pw_below_drewN | apply below_drew1 | refine below_set ?_ GE334.out) | exact HB.out))) : w.heap.size ≤ gb349)); have n15_ := Aside0.mk ((by rw [hg]; exact Nat.ne_of_lt (blk_lt (g := gb334) (o := .cells #[.slice Ao18 t321.length co18, .slice Ao20 t324.length co20, .slice Ao21 t327.length co21, .slice Ao22 t330.length co22] 38 (0, 0)) (by (with_reducible repeat (first | refine blk_drewN ?_ _ | refine blk_drew ?_ | refine blk_alloc ?_ _)); exact BK334.out)) : gb334 ≠ gb349)); have n16_ := Aside0.mk ((by rw [hg]; exact Nat.ne_of_gt (blk_lt (g := gb334) (o := .cells #[.slice Ao18 t321.length co18, .slice Ao20 t324.length co20, .slice Ao21 t327.length co21, .slice Ao22 t330.length co22] 38 (0, 0)) (by (with_reducible repeat (first | refine blk_drewN ?_ _ | refine blk_drew ?_ | refine blk_alloc ?_ _)); exact BK334.out)) : gb349 ≠ gb334)); clear HO_7; clear HO_8; clear HO_335000; clear HO_335001; clear HO_335002; clear HO_335003; clear HO338; clear HO341; clear HO344; clear HO347; clear BK334; clear HB; have HO_7 := n0_; have HO_8 := n1_; have HO_335000 := n2_; have HO_335001 := n3_; have HO_335002 := n4_; have HO_335003 := n5_; have HO338 := n6_; have HO341 := n7_; have HO344 := n8_; have HO347 := n9_; have BK334 := n10_; have HB := n11_; have BK349 := n12_; have GW349 := n13_; have GE349 := n14_; have NB334_349 := n15_; have NB349_334 := n16_; clear n0_ n1_ n2_ n3_ n4_ n5_ n6_ n7_ n8_ n9_ n10_ n11_ n12_ n13_ n14_ n15_ n16_; clear hb hbox hg; obtain ⟨Ao40, co40, eo40⟩ := Kd.S_slice HO341.out; subst eo40; have hnb41 := NB349_334.out; have hnc41 := NB334_349.out; have hcz42_0 : w39.cell? ⟨gb349, 0, none⟩ = some (.slice none 0 0) := (blk_cell BK349.out 0).trans rfl; have hcz42_1 : w39.cell? ⟨gb349, 1, none⟩ = some (.slice none 0 0) := (blk_cell BK349.out 1).trans rfl; have hcz42_2 : w39.cell? ⟨gb349, 2, none⟩ = some (.slice none 0 0) := (blk_cell BK349.out 2).trans rfl; have hfz42_0 := blk_frozen BK349.out 0; have hfz42_1 := blk_frozen BK349.out 1; have hfz42_2 := blk_frozen BK349.out 2; obtain ⟨Ao43, co43, eo43⟩ := Kd.S_slice HO344.out; subst eo43; obtain ⟨Ao44, co44, eo44⟩ := Kd.R_slice HO347.out; subst eo44))
   (try simp only [Act.put, List.setIfInBounds_toArray, List.set_cons_zero, List.set_cons_succ])
   go_cut [105] (fun v105 wc => ∃ (kq : Nat) (x105_33 : Bool), v105 = .bool x105_33 ∧ Aside0 (letterbaglaw28_SequenceExact.j1 kq t315 t318 t336 x105_33 t321 t324 t327 t330 t339 t342 t345 = some r) ∧ Aside0 (kq ≤ kj9) ∧ Aside0 (Kd.R k27 27 wc w.heap.size (fun _ => True) (.slice Ao14 t315.length co14) t315) ∧ Aside0 (Kd.R (Kd.int .i64) 3 wc w.heap.size (fun k_ => some k_ ≠ ((.slice Ao37 t336.length co37) : Value).ownBlock ∧ some k_ ≠ ((.slice Ao18 t321.length co18) : Value).ownBlock ∧ some k_ ≠ ((.slice Ao21 t327.length co21) : Value).ownBlock ∧ some k_ ≠ ((.slice Ao22 t330.length co22) : Value).ownBlock ∧ some k_ ≠ ((.slice Ao44 t345.length co44) : Value).ownBlock) (.slice Ao15 t318.length co15) t318) ∧ Aside0 (Kd.R (Kd.int .i64) 3 wc w.heap.size (fun k_ => some k_ ≠ ((.slice Ao15 t318.length co15) : Value).ownBlock ∧ some k_ ≠ ((.slice Ao18 t321.length co18) : Value).ownBlock ∧ some k_ ≠ ((.slice Ao21 t327.length co21) : Value).ownBlock ∧ some k_ ≠ ((.slice Ao22 t330.length co22) : Value).ownBlock ∧ some k_ ≠ ((.slice Ao44 t345.length co44) : Value).ownBlock) (.slice Ao37 t336.length co37) t336) ∧ Aside0 (Kd.R (Kd.int .i64) 3 wc w.heap.size (fun k_ => some k_ ≠ ((.slice Ao15 t318.length co15) : Value).ownBlock ∧ some k_ ≠ ((.slice Ao37 t336.length co37) : Value).ownBlock ∧ some k_ ≠ ((.slice Ao21 t327.length co21) : Value).ownBlock ∧ some k_ ≠ ((.slice Ao22 t330.length co22) : Value).ownBlock ∧ some k_ ≠ ((.slice Ao44 t345.length co44) : Value).ownBlock) (.slice Ao18 t321.length co18) t321) ∧ Aside0 (Kd.R k60 60 wc w.heap.size (fun _ => True) (.slice Ao20 t324.length co20) t324) ∧ Aside0 (Kd.R (Kd.int .i64) 3 wc w.heap.size (fun k_ => some k_ ≠ ((.slice Ao15 t318.length co15) : Value).ownBlock ∧ some k_ ≠ ((.slice Ao37 t336.length co37) : Value).ownBlock ∧ some k_ ≠ ((.slice Ao18 t321.length co18) : Value).ownBlock ∧ some k_ ≠ ((.slice Ao22 t330.length co22) : Value).ownBlock ∧ some k_ ≠ ((.slice Ao44 t345.length co44) : Value).ownBlock) (.slice Ao21 t327.length co21) t327) ∧ Aside0 (Kd.R (Kd.int .i64) 3 wc w.heap.size (fun k_ => some k_ ≠ ((.slice Ao15 t318.length co15) : Value).ownBlock ∧ some k_ ≠ ((.slice Ao37 t336.length co37) : Value).ownBlock ∧ some k_ ≠ ((.slice Ao18 t321.length co18) : Value).ownBlock ∧ some k_ ≠ ((.slice Ao21 t327.length co21) : Value).ownBlock ∧ some k_ ≠ ((.slice Ao44 t345.length co44) : Value).ownBlock) (.slice Ao22 t330.length co22) t330) ∧ Aside0 (Kd.S (Kd.slice 3 (Kd.int .i64)) 24 wc w.heap.size (fun k_ => some k_ ≠ ((.slice Ao15 t318.length co15) : Value).ownBlock ∧ some k_ ≠ ((.slice Ao37 t336.length co37) : Value).ownBlock ∧ some k_ ≠ ((.slice Ao18 t321.length co18) : Value).ownBlock ∧ some k_ ≠ ((.slice Ao21 t327.length co21) : Value).ownBlock ∧ some k_ ≠ ((.slice Ao22 t330.length co22) : Value).ownBlock ∧ some k_ ≠ ((.slice Ao43 t342.length co43) : Value).ownBlock ∧ some k_ ≠ ((.slice Ao44 t345.length co44) : Value).ownBlock) (.slice Ao40 t339.length co40) t339) ∧ Aside0 (Kd.S (Kd.slice 3 (Kd.int .i64)) 24 wc w.heap.size (fun k_ => some k_ ≠ ((.slice Ao15 t318.length co15) : Value).ownBlock ∧ some k_ ≠ ((.slice Ao37 t336.length co37) : Value).ownBlock ∧ some k_ ≠ ((.slice Ao18 t321.length co18) : Value).ownBlock ∧ some k_ ≠ ((.slice Ao21 t327.length co21) : Value).ownBlock ∧ some k_ ≠ ((.slice Ao22 t330.length co22) : Value).ownBlock ∧ some k_ ≠ ((.slice Ao40 t339.length co40) : Value).ownBlock ∧ some k_ ≠ ((.slice Ao44 t345.length co44) : Value).ownBlock) (.slice Ao43 t342.length co43) t342) ∧ Aside0 (Kd.R (Kd.int .i64) 3 wc w.heap.size (fun k_ => some k_ ≠ ((.slice Ao15 t318.length co15) : Value).ownBlock ∧ some k_ ≠ ((.slice Ao37 t336.length co37) : Value).ownBlock ∧ some k_ ≠ ((.slice Ao18 t321.length co18) : Value).ownBlock ∧ some k_ ≠ ((.slice Ao21 t327.length co21) : Value).ownBlock ∧ some k_ ≠ ((.slice Ao22 t330.length co22) : Value).ownBlock) (.slice Ao44 t345.length co44) t345) ∧ Aside0 (wc.heap[gb334]? = some (.cells #[(.slice Ao18 t321.length co18), (.slice Ao20 t324.length co20), (.slice Ao21 t327.length co21), (.slice Ao22 t330.length co22)] 38 (0, 0))) ∧ Aside0 (wc.heap[gb349]? = some (.cells #[(.slice Ao40 t339.length co40), (.slice Ao43 t342.length co43), (.slice Ao44 t345.length co44)] 50 (0, 0))) ∧ Aside0 (Below w.heap.size w wc))
   case first => as_aux_lemma =>
    have H := HC34.out; clear HC34
    by_cases c45 : t348 = 0
    rotate_left
    ·rw [if_neg c45] at H
     have c45b0 : (t348 == 0) = false := beq_eq_false_iff_ne.mpr c45
     have c45b1 : (t348 != 0) = true := bne_iff_ne.mpr c45
     (first | rw [c45b0] | (simp only [i64_w, i32_w]; rw [c45b0]) | skip)
     have H' := Aside0.mk H
     clear H
     go_wp2
     repeat (go_quiet (fail); try go_wp2)
     go_meet
     case rel => exact ⟨_, (true), (by first | rfl | (simp; done) | (simp [*]; done)), H', ⟨by have := HJ9.out; first | omega | exact Nat.le_refl _⟩, ⟨by (with_reducible repeat (first | apply Kd.R_alloc | apply Kd.R_drewN | apply Kd.R_drew)); exact Kd.R_mono (Kd.R_far (p := ⟨gb349, 2, none⟩) (Kd.R_far (p := ⟨gb349, 1, none⟩) (Kd.R_far (p := ⟨gb349, 0, none⟩) (Kd.R_types HO_7.out BK349.out (by decide)) (fun _ hk => hk.2) (.slice Ao40 t339.length co40)) (fun _ hk => hk.2) (.slice Ao43 t342.length co43)) (fun _ hk => hk.2) (.slice Ao44 t345.length co44)) (fun _ hk => trivial)⟩, ⟨by (with_reducible repeat (first | apply Kd.R_alloc | apply Kd.R_drewN | apply Kd.R_drew)); exact Kd.R_mono (Kd.R_far (p := ⟨gb349, 2, none⟩) (Kd.R_far (p := ⟨gb349, 1, none⟩) (Kd.R_far (p := ⟨gb349, 0, none⟩) (Kd.R_types HO_8.out BK349.out (by decide)) (fun _ hk => hk.2) (.slice Ao40 t339.length co40)) (fun _ hk => hk.2) (.slice Ao43 t342.length co43)) (fun _ hk => hk.2) (.slice Ao44 t345.length co44)) (fun _ hk => ⟨hk.1.1.2, ⟨hk.1.1.1.1, ⟨hk.1.1.1.2.1, ⟨hk.1.1.1.2.2, hk.1.2⟩⟩⟩⟩)⟩, ⟨by (with_reducible repeat (first | apply Kd.R_alloc | apply Kd.R_drewN | apply Kd.R_drew)); exact Kd.R_mono (Kd.R_far (p := ⟨gb349, 2, none⟩) (Kd.R_far (p := ⟨gb349, 1, none⟩) (Kd.R_far (p := ⟨gb349, 0, none⟩) (Kd.R_types HO338.out BK349.out (by decide)) (fun _ hk => hk.2) (.slice Ao40 t339.length co40)) (fun _ hk => hk.2) (.slice Ao43 t342.length co43)) (fun _ hk => hk.2) (.slice Ao44 t345.length co44)) (fun _ hk => ⟨hk.1.1.1.1.1.2, ⟨hk.1.1.1.1.2, ⟨hk.1.1.1.2, ⟨hk.1.1.2, hk.1.2⟩⟩⟩⟩)⟩, ⟨by (with_reducible repeat (first | apply Kd.R_alloc | apply Kd.R_drewN | apply Kd.R_drew)); exact Kd.R_mono (Kd.R_far (p := ⟨gb349, 2, none⟩) (Kd.R_far (p := ⟨gb349, 1, none⟩) (Kd.R_far (p := ⟨gb349, 0, none⟩) (Kd.R_types HO_335000.out BK349.out (by decide)) (fun _ hk => hk.2) (.slice Ao40 t339.length co40)) (fun _ hk => hk.2) (.slice Ao43 t342.length co43)) (fun _ hk => hk.2) (.slice Ao44 t345.length co44)) (fun _ hk => ⟨hk.1.1.1.1, ⟨hk.1.1.2, ⟨hk.1.1.1.2.1, ⟨hk.1.1.1.2.2, hk.1.2⟩⟩⟩⟩)⟩, ⟨by (with_reducible repeat (first | apply Kd.R_alloc | apply Kd.R_drewN | apply Kd.R_drew)); exact Kd.R_mono (Kd.R_far (p := ⟨gb349, 2, none⟩) (Kd.R_far (p := ⟨gb349, 1, none⟩) (Kd.R_far (p := ⟨gb349, 0, none⟩) (Kd.R_types HO_335001.out BK349.out (by decide)) (fun _ hk => hk.2) (.slice Ao40 t339.length co40)) (fun _ hk => hk.2) (.slice Ao43 t342.length co43)) (fun _ hk => hk.2) (.slice Ao44 t345.length co44)) (fun _ hk => trivial)⟩, ⟨by (with_reducible repeat (first | apply Kd.R_alloc | apply Kd.R_drewN | apply Kd.R_drew)); exact Kd.R_mono (Kd.R_far (p := ⟨gb349, 2, none⟩) (Kd.R_far (p := ⟨gb349, 1, none⟩) (Kd.R_far (p := ⟨gb349, 0, none⟩) (Kd.R_types HO_335002.out BK349.out (by decide)) (fun _ hk => hk.2) (.slice Ao40 t339.length co40)) (fun _ hk => hk.2) (.slice Ao43 t342.length co43)) (fun _ hk => hk.2) (.slice Ao44 t345.length co44)) (fun _ hk => ⟨hk.1.1.1.1, ⟨hk.1.1.2, ⟨hk.1.1.1.2.1, ⟨hk.1.1.1.2.2, hk.1.2⟩⟩⟩⟩)⟩, ⟨by (with_reducible repeat (first | apply Kd.R_alloc | apply Kd.R_drewN | apply Kd.R_drew)); exact Kd.R_mono (Kd.R_far (p := ⟨gb349, 2, none⟩) (Kd.R_far (p := ⟨gb349, 1, none⟩) (Kd.R_far (p := ⟨gb349, 0, none⟩) (Kd.R_types HO_335003.out BK349.out (by decide)) (fun _ hk => hk.2) (.slice Ao40 t339.length co40)) (fun _ hk => hk.2) (.slice Ao43 t342.length co43)) (fun _ hk => hk.2) (.slice Ao44 t345.length co44)) (fun _ hk => ⟨hk.1.1.1.1, ⟨hk.1.1.2, ⟨hk.1.1.1.2.1, ⟨hk.1.1.1.2.2, hk.1.2⟩⟩⟩⟩)⟩, ⟨by (with_reducible repeat (first | apply Kd.S_alloc | apply Kd.S_drewN | apply Kd.S_drew)); exact Kd.S_mono (Kd.S_far (p := ⟨gb349, 2, none⟩) (Kd.S_far (p := ⟨gb349, 1, none⟩) (Kd.S_far (p := ⟨gb349, 0, none⟩) (Kd.S_types HO341.out BK349.out (by decide)) (fun _ hk => hk.2) (.slice Ao40 t339.length co40)) (fun _ hk => hk.2) (.slice Ao43 t342.length co43)) (fun _ hk => hk.2) (.slice Ao44 t345.length co44)) (fun _ hk => ⟨hk.1.1.1.1.1.2, ⟨hk.1.2, ⟨hk.1.1.1.1.2, ⟨hk.1.1.1.2, ⟨hk.1.1.2, ⟨hk.1.1.1.1.1.1.1, hk.1.1.1.1.1.1.2⟩⟩⟩⟩⟩⟩)⟩, ⟨by (with_reducible repeat (first | apply Kd.S_alloc | apply Kd.S_drewN | apply Kd.S_drew)); exact Kd.S_mono (Kd.S_far (p := ⟨gb349, 2, none⟩) (Kd.S_far (p := ⟨gb349, 1, none⟩) (Kd.S_far (p := ⟨gb349, 0, none⟩) (Kd.S_types HO344.out BK349.out (by decide)) (fun _ hk => hk.2) (.slice Ao40 t339.length co40)) (fun _ hk => hk.2) (.slice Ao43 t342.length co43)) (fun _ hk => hk.2) (.slice Ao44 t345.length co44)) (fun _ hk => ⟨hk.1.1.1.1.1.2, ⟨hk.1.2, ⟨hk.1.1.1.1.2, ⟨hk.1.1.1.2, ⟨hk.1.1.2, ⟨hk.1.1.1.1.1.1.1, hk.1.1.1.1.1.1.2⟩⟩⟩⟩⟩⟩)⟩, ⟨by (with_reducible repeat (first | apply Kd.R_alloc | apply Kd.R_drewN | apply Kd.R_drew)); exact Kd.R_mono (Kd.R_far (p := ⟨gb349, 2, none⟩) (Kd.R_far (p := ⟨gb349, 1, none⟩) (Kd.R_far (p := ⟨gb349, 0, none⟩) (Kd.R_types HO347.out BK349.out (by decide)) (fun _ hk => hk.2) (.slice Ao40 t339.length co40)) (fun _ hk => hk.2) (.slice Ao43 t342.length co43)) (fun _ hk => hk.2) (.slice Ao44 t345.length co44)) (fun _ hk => ⟨hk.1.1.1.1.1.2, ⟨hk.1.2, ⟨hk.1.1.1.1.2, ⟨hk.1.1.1.2, hk.1.1.2⟩⟩⟩⟩)⟩, ⟨by (with_reducible repeat (first | refine blk_drewN ?_ _ | refine blk_drew ?_ | refine blk_alloc ?_ _)); refine blk_far ?_ NB334_349.out _; (with_reducible repeat (first | refine blk_drewN ?_ _ | refine blk_drew ?_ | refine blk_alloc ?_ _)); refine blk_far ?_ NB334_349.out _; (with_reducible repeat (first | refine blk_drewN ?_ _ | refine blk_drew ?_ | refine blk_alloc ?_ _)); refine blk_far ?_ NB334_349.out _; (with_reducible repeat (first | refine blk_drewN ?_ _ | refine blk_drew ?_ | refine blk_alloc ?_ _)); exact BK334.out⟩, ⟨by (with_reducible repeat (first | refine blk_drewN ?_ _ | refine blk_drew ?_ | refine blk_alloc ?_ _)); refine blk_put (cs := #[.slice Ao40 t339.length co40, .slice Ao43 t342.length co43, .slice none 0 0]) ?_ 2 _ rfl; (with_reducible repeat (first | refine blk_drewN ?_ _ | refine blk_drew ?_ | refine blk_alloc ?_ _)); refine blk_put (cs := #[.slice Ao40 t339.length co40, .slice none 0 0, .slice none 0 0]) ?_ 1 _ rfl; (with_reducible repeat (first | refine blk_drewN ?_ _ | refine blk_drew ?_ | refine blk_alloc ?_ _)); refine blk_put (cs := #[.slice none 0 0, .slice none 0 0, .slice none 0 0]) ?_ 0 _ rfl; (with_reducible repeat (first | refine blk_drewN ?_ _ | refine blk_drew ?_ | refine blk_alloc ?_ _)); exact BK349.out⟩, ⟨by repeat (first | (with_reducible first | exact HB.out | apply below_alloc | apply pw_below_drewN | apply below_drew1 | refine below_set ?_ GE334.out | refine below_set ?_ GE349.out) | exact HB.out)⟩⟩
    rw [if_pos c45] at H
    have c45b0 : (t348 == 0) = true := beq_iff_eq.mpr c45
    have c45b1 : (t348 != 0) = false := bne_eq_false_iff_eq.mpr c45
    clear c45
    (first | rw [c45b0] | (simp only [i64_w, i32_w]; rw [c45b0]) | skip)
    by_cases c46 : (t345.length : Int) = (t336.length : Int)
    rotate_left
    ·rw [if_neg c46] at H
     have c46b0 : ((t345.length : Int) == (t336.length : Int)) = false := beq_eq_false_iff_ne.mpr c46
     have c46b1 : ((t345.length : Int) != (t336.length : Int)) = true := bne_iff_ne.mpr c46
     have c46b2 : (t345.length == t336.length) = false := by first | simpa using c46 | (simp at c46 ⊢; omega)
     have H' := Aside0.mk H
     clear H; have hnb52 := NB349_334.out; have hnc52 := NB334_349.out
     have hcz53_0 : w39.cell? ⟨gb349, 0, none⟩ = some (.slice none 0 0) := (blk_cell BK349.out 0).trans rfl
     have hcz53_1 : w39.cell? ⟨gb349, 1, none⟩ = some (.slice none 0 0) := (blk_cell BK349.out 1).trans rfl
     have hcz53_2 : w39.cell? ⟨gb349, 2, none⟩ = some (.slice none 0 0) := (blk_cell BK349.out 2).trans rfl
     have hfz53_0 := blk_frozen BK349.out 0
     have hfz53_1 := blk_frozen BK349.out 1
     have hfz53_2 := blk_frozen BK349.out 2
     go_wp2
     repeat (go_quiet (fail); try go_wp2)
     go_meet
     case rel => exact ⟨_, (true), (by first | rfl | (simp; done) | (simp [*]; done)), H', ⟨by have := HJ9.out; first | omega | exact Nat.le_refl _⟩, ⟨by (with_reducible repeat (first | apply Kd.R_alloc | apply Kd.R_drewN | apply Kd.R_drew)); exact Kd.R_mono (Kd.R_far (p := ⟨gb349, 2, none⟩) (Kd.R_far (p := ⟨gb349, 1, none⟩) (Kd.R_far (p := ⟨gb349, 0, none⟩) (Kd.R_types HO_7.out BK349.out (by decide)) (fun _ hk => hk.2) (.slice Ao40 t339.length co40)) (fun _ hk => hk.2) (.slice Ao43 t342.length co43)) (fun _ hk => hk.2) (.slice Ao44 t345.length co44)) (fun _ hk => trivial)⟩, ⟨by (with_reducible repeat (first | apply Kd.R_alloc | apply Kd.R_drewN | apply Kd.R_drew)); exact Kd.R_mono (Kd.R_far (p := ⟨gb349, 2, none⟩) (Kd.R_far (p := ⟨gb349, 1, none⟩) (Kd.R_far (p := ⟨gb349, 0, none⟩) (Kd.R_types HO_8.out BK349.out (by decide)) (fun _ hk => hk.2) (.slice Ao40 t339.length co40)) (fun _ hk => hk.2) (.slice Ao43 t342.length co43)) (fun _ hk => hk.2) (.slice Ao44 t345.length co44)) (fun _ hk => ⟨hk.1.1.2, ⟨hk.1.1.1.1, ⟨hk.1.1.1.2.1, ⟨hk.1.1.1.2.2, hk.1.2⟩⟩⟩⟩)⟩, ⟨by (with_reducible repeat (first | apply Kd.R_alloc | apply Kd.R_drewN | apply Kd.R_drew)); exact Kd.R_mono (Kd.R_far (p := ⟨gb349, 2, none⟩) (Kd.R_far (p := ⟨gb349, 1, none⟩) (Kd.R_far (p := ⟨gb349, 0, none⟩) (Kd.R_types HO338.out BK349.out (by decide)) (fun _ hk => hk.2) (.slice Ao40 t339.length co40)) (fun _ hk => hk.2) (.slice Ao43 t342.length co43)) (fun _ hk => hk.2) (.slice Ao44 t345.length co44)) (fun _ hk => ⟨hk.1.1.1.1.1.2, ⟨hk.1.1.1.1.2, ⟨hk.1.1.1.2, ⟨hk.1.1.2, hk.1.2⟩⟩⟩⟩)⟩, ⟨by (with_reducible repeat (first | apply Kd.R_alloc | apply Kd.R_drewN | apply Kd.R_drew)); exact Kd.R_mono (Kd.R_far (p := ⟨gb349, 2, none⟩) (Kd.R_far (p := ⟨gb349, 1, none⟩) (Kd.R_far (p := ⟨gb349, 0, none⟩) (Kd.R_types HO_335000.out BK349.out (by decide)) (fun _ hk => hk.2) (.slice Ao40 t339.length co40)) (fun _ hk => hk.2) (.slice Ao43 t342.length co43)) (fun _ hk => hk.2) (.slice Ao44 t345.length co44)) (fun _ hk => ⟨hk.1.1.1.1, ⟨hk.1.1.2, ⟨hk.1.1.1.2.1, ⟨hk.1.1.1.2.2, hk.1.2⟩⟩⟩⟩)⟩, ⟨by (with_reducible repeat (first | apply Kd.R_alloc | apply Kd.R_drewN | apply Kd.R_drew)); exact Kd.R_mono (Kd.R_far (p := ⟨gb349, 2, none⟩) (Kd.R_far (p := ⟨gb349, 1, none⟩) (Kd.R_far (p := ⟨gb349, 0, none⟩) (Kd.R_types HO_335001.out BK349.out (by decide)) (fun _ hk => hk.2) (.slice Ao40 t339.length co40)) (fun _ hk => hk.2) (.slice Ao43 t342.length co43)) (fun _ hk => hk.2) (.slice Ao44 t345.length co44)) (fun _ hk => trivial)⟩, ⟨by (with_reducible repeat (first | apply Kd.R_alloc | apply Kd.R_drewN | apply Kd.R_drew)); exact Kd.R_mono (Kd.R_far (p := ⟨gb349, 2, none⟩) (Kd.R_far (p := ⟨gb349, 1, none⟩) (Kd.R_far (p := ⟨gb349, 0, none⟩) (Kd.R_types HO_335002.out BK349.out (by decide)) (fun _ hk => hk.2) (.slice Ao40 t339.length co40)) (fun _ hk => hk.2) (.slice Ao43 t342.length co43)) (fun _ hk => hk.2) (.slice Ao44 t345.length co44)) (fun _ hk => ⟨hk.1.1.1.1, ⟨hk.1.1.2, ⟨hk.1.1.1.2.1, ⟨hk.1.1.1.2.2, hk.1.2⟩⟩⟩⟩)⟩, ⟨by (with_reducible repeat (first | apply Kd.R_alloc | apply Kd.R_drewN | apply Kd.R_drew)); exact Kd.R_mono (Kd.R_far (p := ⟨gb349, 2, none⟩) (Kd.R_far (p := ⟨gb349, 1, none⟩) (Kd.R_far (p := ⟨gb349, 0, none⟩) (Kd.R_types HO_335003.out BK349.out (by decide)) (fun _ hk => hk.2) (.slice Ao40 t339.length co40)) (fun _ hk => hk.2) (.slice Ao43 t342.length co43)) (fun _ hk => hk.2) (.slice Ao44 t345.length co44)) (fun _ hk => ⟨hk.1.1.1.1, ⟨hk.1.1.2, ⟨hk.1.1.1.2.1, ⟨hk.1.1.1.2.2, hk.1.2⟩⟩⟩⟩)⟩, ⟨by (with_reducible repeat (first | apply Kd.S_alloc | apply Kd.S_drewN | apply Kd.S_drew)); exact Kd.S_mono (Kd.S_far (p := ⟨gb349, 2, none⟩) (Kd.S_far (p := ⟨gb349, 1, none⟩) (Kd.S_far (p := ⟨gb349, 0, none⟩) (Kd.S_types HO341.out BK349.out (by decide)) (fun _ hk => hk.2) (.slice Ao40 t339.length co40)) (fun _ hk => hk.2) (.slice Ao43 t342.length co43)) (fun _ hk => hk.2) (.slice Ao44 t345.length co44)) (fun _ hk => ⟨hk.1.1.1.1.1.2, ⟨hk.1.2, ⟨hk.1.1.1.1.2, ⟨hk.1.1.1.2, ⟨hk.1.1.2, ⟨hk.1.1.1.1.1.1.1, hk.1.1.1.1.1.1.2⟩⟩⟩⟩⟩⟩)⟩, ⟨by (with_reducible repeat (first | apply Kd.S_alloc | apply Kd.S_drewN | apply Kd.S_drew)); exact Kd.S_mono (Kd.S_far (p := ⟨gb349, 2, none⟩) (Kd.S_far (p := ⟨gb349, 1, none⟩) (Kd.S_far (p := ⟨gb349, 0, none⟩) (Kd.S_types HO344.out BK349.out (by decide)) (fun _ hk => hk.2) (.slice Ao40 t339.length co40)) (fun _ hk => hk.2) (.slice Ao43 t342.length co43)) (fun _ hk => hk.2) (.slice Ao44 t345.length co44)) (fun _ hk => ⟨hk.1.1.1.1.1.2, ⟨hk.1.2, ⟨hk.1.1.1.1.2, ⟨hk.1.1.1.2, ⟨hk.1.1.2, ⟨hk.1.1.1.1.1.1.1, hk.1.1.1.1.1.1.2⟩⟩⟩⟩⟩⟩)⟩, ⟨by (with_reducible repeat (first | apply Kd.R_alloc | apply Kd.R_drewN | apply Kd.R_drew)); exact Kd.R_mono (Kd.R_far (p := ⟨gb349, 2, none⟩) (Kd.R_far (p := ⟨gb349, 1, none⟩) (Kd.R_far (p := ⟨gb349, 0, none⟩) (Kd.R_types HO347.out BK349.out (by decide)) (fun _ hk => hk.2) (.slice Ao40 t339.length co40)) (fun _ hk => hk.2) (.slice Ao43 t342.length co43)) (fun _ hk => hk.2) (.slice Ao44 t345.length co44)) (fun _ hk => ⟨hk.1.1.1.1.1.2, ⟨hk.1.2, ⟨hk.1.1.1.1.2, ⟨hk.1.1.1.2, hk.1.1.2⟩⟩⟩⟩)⟩, ⟨by (with_reducible repeat (first | refine blk_drewN ?_ _ | refine blk_drew ?_ | refine blk_alloc ?_ _)); refine blk_far ?_ NB334_349.out _; (with_reducible repeat (first | refine blk_drewN ?_ _ | refine blk_drew ?_ | refine blk_alloc ?_ _)); refine blk_far ?_ NB334_349.out _; (with_reducible repeat (first | refine blk_drewN ?_ _ | refine blk_drew ?_ | refine blk_alloc ?_ _)); refine blk_far ?_ NB334_349.out _; (with_reducible repeat (first | refine blk_drewN ?_ _ | refine blk_drew ?_ | refine blk_alloc ?_ _)); exact BK334.out⟩, ⟨by (with_reducible repeat (first | refine blk_drewN ?_ _ | refine blk_drew ?_ | refine blk_alloc ?_ _)); refine blk_put (cs := #[.slice Ao40 t339.length co40, .slice Ao43 t342.length co43, .slice none 0 0]) ?_ 2 _ rfl; (with_reducible repeat (first | refine blk_drewN ?_ _ | refine blk_drew ?_ | refine blk_alloc ?_ _)); refine blk_put (cs := #[.slice Ao40 t339.length co40, .slice none 0 0, .slice none 0 0]) ?_ 1 _ rfl; (with_reducible repeat (first | refine blk_drewN ?_ _ | refine blk_drew ?_ | refine blk_alloc ?_ _)); refine blk_put (cs := #[.slice none 0 0, .slice none 0 0, .slice none 0 0]) ?_ 0 _ rfl; (with_reducible repeat (first | refine blk_drewN ?_ _ | refine blk_drew ?_ | refine blk_alloc ?_ _)); exact BK349.out⟩, ⟨by repeat (first | (with_reducible first | exact HB.out | apply below_alloc | apply pw_below_drewN | apply below_drew1 | refine below_set ?_ GE334.out | refine below_set ?_ GE349.out) | exact HB.out)⟩⟩
    rw [if_pos c46] at H
    have c46b0 : ((t345.length : Int) == (t336.length : Int)) = true := beq_iff_eq.mpr c46
    have c46b1 : ((t345.length : Int) != (t336.length : Int)) = false := bne_eq_false_iff_eq.mpr c46
    have c46b2 : (t345.length == t336.length) = true := by first | simpa using c46 | (simp at c46 ⊢; omega)
    clear c46
    by_cases c47 : (t339.length : Int) = (t318.length : Int)
    rotate_left
    ·rw [if_neg c47] at H
     have c47b0 : ((t339.length : Int) == (t318.length : Int)) = false := beq_eq_false_iff_ne.mpr c47
     have c47b1 : ((t339.length : Int) != (t318.length : Int)) = true := bne_iff_ne.mpr c47
     have c47b2 : (t339.length == t318.length) = false := by first | simpa using c47 | (simp at c47 ⊢; omega)
     have H' := Aside0.mk H
     clear H; have hnb50 := NB349_334.out; have hnc50 := NB334_349.out
     have hcz51_0 : w39.cell? ⟨gb349, 0, none⟩ = some (.slice none 0 0) := (blk_cell BK349.out 0).trans rfl
     have hcz51_1 : w39.cell? ⟨gb349, 1, none⟩ = some (.slice none 0 0) := (blk_cell BK349.out 1).trans rfl
     have hcz51_2 : w39.cell? ⟨gb349, 2, none⟩ = some (.slice none 0 0) := (blk_cell BK349.out 2).trans rfl
     have hfz51_0 := blk_frozen BK349.out 0
     have hfz51_1 := blk_frozen BK349.out 1
     have hfz51_2 := blk_frozen BK349.out 2
     go_wp2
     repeat (go_quiet (fail); try go_wp2)
     go_meet
     case rel => exact ⟨_, (true), (by first | rfl | (simp; done) | (simp [*]; done)), H', ⟨by have := HJ9.out; first | omega | exact Nat.le_refl _⟩, ⟨by (with_reducible repeat (first | apply Kd.R_alloc | apply Kd.R_drewN | apply Kd.R_drew)); exact Kd.R_mono (Kd.R_far (p := ⟨gb349, 2, none⟩) (Kd.R_far (p := ⟨gb349, 1, none⟩) (Kd.R_far (p := ⟨gb349, 0, none⟩) (Kd.R_types HO_7.out BK349.out (by decide)) (fun _ hk => hk.2) (.slice Ao40 t339.length co40)) (fun _ hk => hk.2) (.slice Ao43 t342.length co43)) (fun _ hk => hk.2) (.slice Ao44 t345.length co44)) (fun _ hk => trivial)⟩, ⟨by (with_reducible repeat (first | apply Kd.R_alloc | apply Kd.R_drewN | apply Kd.R_drew)); exact Kd.R_mono (Kd.R_far (p := ⟨gb349, 2, none⟩) (Kd.R_far (p := ⟨gb349, 1, none⟩) (Kd.R_far (p := ⟨gb349, 0, none⟩) (Kd.R_types HO_8.out BK349.out (by decide)) (fun _ hk => hk.2) (.slice Ao40 t339.length co40)) (fun _ hk => hk.2) (.slice Ao43 t342.length co43)) (fun _ hk => hk.2) (.slice Ao44 t345.length co44)) (fun _ hk => ⟨hk.1.1.2, ⟨hk.1.1.1.1, ⟨hk.1.1.1.2.1, ⟨hk.1.1.1.2.2, hk.1.2⟩⟩⟩⟩)⟩, ⟨by (with_reducible repeat (first | apply Kd.R_alloc | apply Kd.R_drewN | apply Kd.R_drew)); exact Kd.R_mono (Kd.R_far (p := ⟨gb349, 2, none⟩) (Kd.R_far (p := ⟨gb349, 1, none⟩) (Kd.R_far (p := ⟨gb349, 0, none⟩) (Kd.R_types HO338.out BK349.out (by decide)) (fun _ hk => hk.2) (.slice Ao40 t339.length co40)) (fun _ hk => hk.2) (.slice Ao43 t342.length co43)) (fun _ hk => hk.2) (.slice Ao44 t345.length co44)) (fun _ hk => ⟨hk.1.1.1.1.1.2, ⟨hk.1.1.1.1.2, ⟨hk.1.1.1.2, ⟨hk.1.1.2, hk.1.2⟩⟩⟩⟩)⟩, ⟨by (with_reducible repeat (first | apply Kd.R_alloc | apply Kd.R_drewN | apply Kd.R_drew)); exact Kd.R_mono (Kd.R_far (p := ⟨gb349, 2, none⟩) (Kd.R_far (p := ⟨gb349, 1, none⟩) (Kd.R_far (p := ⟨gb349, 0, none⟩) (Kd.R_types HO_335000.out BK349.out (by decide)) (fun _ hk => hk.2) (.slice Ao40 t339.length co40)) (fun _ hk => hk.2) (.slice Ao43 t342.length co43)) (fun _ hk => hk.2) (.slice Ao44 t345.length co44)) (fun _ hk => ⟨hk.1.1.1.1, ⟨hk.1.1.2, ⟨hk.1.1.1.2.1, ⟨hk.1.1.1.2.2, hk.1.2⟩⟩⟩⟩)⟩, ⟨by (with_reducible repeat (first | apply Kd.R_alloc | apply Kd.R_drewN | apply Kd.R_drew)); exact Kd.R_mono (Kd.R_far (p := ⟨gb349, 2, none⟩) (Kd.R_far (p := ⟨gb349, 1, none⟩) (Kd.R_far (p := ⟨gb349, 0, none⟩) (Kd.R_types HO_335001.out BK349.out (by decide)) (fun _ hk => hk.2) (.slice Ao40 t339.length co40)) (fun _ hk => hk.2) (.slice Ao43 t342.length co43)) (fun _ hk => hk.2) (.slice Ao44 t345.length co44)) (fun _ hk => trivial)⟩, ⟨by (with_reducible repeat (first | apply Kd.R_alloc | apply Kd.R_drewN | apply Kd.R_drew)); exact Kd.R_mono (Kd.R_far (p := ⟨gb349, 2, none⟩) (Kd.R_far (p := ⟨gb349, 1, none⟩) (Kd.R_far (p := ⟨gb349, 0, none⟩) (Kd.R_types HO_335002.out BK349.out (by decide)) (fun _ hk => hk.2) (.slice Ao40 t339.length co40)) (fun _ hk => hk.2) (.slice Ao43 t342.length co43)) (fun _ hk => hk.2) (.slice Ao44 t345.length co44)) (fun _ hk => ⟨hk.1.1.1.1, ⟨hk.1.1.2, ⟨hk.1.1.1.2.1, ⟨hk.1.1.1.2.2, hk.1.2⟩⟩⟩⟩)⟩, ⟨by (with_reducible repeat (first | apply Kd.R_alloc | apply Kd.R_drewN | apply Kd.R_drew)); exact Kd.R_mono (Kd.R_far (p := ⟨gb349, 2, none⟩) (Kd.R_far (p := ⟨gb349, 1, none⟩) (Kd.R_far (p := ⟨gb349, 0, none⟩) (Kd.R_types HO_335003.out BK349.out (by decide)) (fun _ hk => hk.2) (.slice Ao40 t339.length co40)) (fun _ hk => hk.2) (.slice Ao43 t342.length co43)) (fun _ hk => hk.2) (.slice Ao44 t345.length co44)) (fun _ hk => ⟨hk.1.1.1.1, ⟨hk.1.1.2, ⟨hk.1.1.1.2.1, ⟨hk.1.1.1.2.2, hk.1.2⟩⟩⟩⟩)⟩, ⟨by (with_reducible repeat (first | apply Kd.S_alloc | apply Kd.S_drewN | apply Kd.S_drew)); exact Kd.S_mono (Kd.S_far (p := ⟨gb349, 2, none⟩) (Kd.S_far (p := ⟨gb349, 1, none⟩) (Kd.S_far (p := ⟨gb349, 0, none⟩) (Kd.S_types HO341.out BK349.out (by decide)) (fun _ hk => hk.2) (.slice Ao40 t339.length co40)) (fun _ hk => hk.2) (.slice Ao43 t342.length co43)) (fun _ hk => hk.2) (.slice Ao44 t345.length co44)) (fun _ hk => ⟨hk.1.1.1.1.1.2, ⟨hk.1.2, ⟨hk.1.1.1.1.2, ⟨hk.1.1.1.2, ⟨hk.1.1.2, ⟨hk.1.1.1.1.1.1.1, hk.1.1.1.1.1.1.2⟩⟩⟩⟩⟩⟩)⟩, ⟨by (with_reducible repeat (first | apply Kd.S_alloc | apply Kd.S_drewN | apply Kd.S_drew)); exact Kd.S_mono (Kd.S_far (p := ⟨gb349, 2, none⟩) (Kd.S_far (p := ⟨gb349, 1, none⟩) (Kd.S_far (p := ⟨gb349, 0, none⟩) (Kd.S_types HO344.out BK349.out (by decide)) (fun _ hk => hk.2) (.slice Ao40 t339.length co40)) (fun _ hk => hk.2) (.slice Ao43 t342.length co43)) (fun _ hk => hk.2) (.slice Ao44 t345.length co44)) (fun _ hk => ⟨hk.1.1.1.1.1.2, ⟨hk.1.2, ⟨hk.1.1.1.1.2, ⟨hk.1.1.1.2, ⟨hk.1.1.2, ⟨hk.1.1.1.1.1.1.1, hk.1.1.1.1.1.1.2⟩⟩⟩⟩⟩⟩)⟩, ⟨by (with_reducible repeat (first | apply Kd.R_alloc | apply Kd.R_drewN | apply Kd.R_drew)); exact Kd.R_mono (Kd.R_far (p := ⟨gb349, 2, none⟩) (Kd.R_far (p := ⟨gb349, 1, none⟩) (Kd.R_far (p := ⟨gb349, 0, none⟩) (Kd.R_types HO347.out BK349.out (by decide)) (fun _ hk => hk.2) (.slice Ao40 t339.length co40)) (fun _ hk => hk.2) (.slice Ao43 t342.length co43)) (fun _ hk => hk.2) (.slice Ao44 t345.length co44)) (fun _ hk => ⟨hk.1.1.1.1.1.2, ⟨hk.1.2, ⟨hk.1.1.1.1.2, ⟨hk.1.1.1.2, hk.1.1.2⟩⟩⟩⟩)⟩, ⟨by (with_reducible repeat (first | refine blk_drewN ?_ _ | refine blk_drew ?_ | refine blk_alloc ?_ _)); refine blk_far ?_ NB334_349.out _; (with_reducible repeat (first | refine blk_drewN ?_ _ | refine blk_drew ?_ | refine blk_alloc ?_ _)); refine blk_far ?_ NB334_349.out _; (with_reducible repeat (first | refine blk_drewN ?_ _ | refine blk_drew ?_ | refine blk_alloc ?_ _)); refine blk_far ?_ NB334_349.out _; (with_reducible repeat (first | refine blk_drewN ?_ _ | refine blk_drew ?_ | refine blk_alloc ?_ _)); exact BK334.out⟩, ⟨by (with_reducible repeat (first | refine blk_drewN ?_ _ | refine blk_drew ?_ | refine blk_alloc ?_ _)); refine blk_put (cs := #[.slice Ao40 t339.length co40, .slice Ao43 t342.length co43, .slice none 0 0]) ?_ 2 _ rfl; (with_reducible repeat (first | refine blk_drewN ?_ _ | refine blk_drew ?_ | refine blk_alloc ?_ _)); refine blk_put (cs := #[.slice Ao40 t339.length co40, .slice none 0 0, .slice none 0 0]) ?_ 1 _ rfl; (with_reducible repeat (first | refine blk_drewN ?_ _ | refine blk_drew ?_ | refine blk_alloc ?_ _)); refine blk_put (cs := #[.slice none 0 0, .slice none 0 0, .slice none 0 0]) ?_ 0 _ rfl; (with_reducible repeat (first | refine blk_drewN ?_ _ | refine blk_drew ?_ | refine blk_alloc ?_ _)); exact BK349.out⟩, ⟨by repeat (first | (with_reducible first | exact HB.out | apply below_alloc | apply pw_below_drewN | apply below_drew1 | refine below_set ?_ GE334.out | refine below_set ?_ GE349.out) | exact HB.out)⟩⟩
    rw [if_pos c47] at H
    have c47b0 : ((t339.length : Int) == (t318.length : Int)) = true := beq_iff_eq.mpr c47
    have c47b1 : ((t339.length : Int) != (t318.length : Int)) = false := bne_eq_false_iff_eq.mpr c47
    have c47b2 : (t339.length == t318.length) = true := by first | simpa using c47 | (simp at c47 ⊢; omega)
    clear c47
    have H' := Aside0.mk H
    clear H; have hnb48 := NB349_334.out; have hnc48 := NB334_349.out
    have hcz49_0 : w39.cell? ⟨gb349, 0, none⟩ = some (.slice none 0 0) := (blk_cell BK349.out 0).trans rfl
    have hcz49_1 : w39.cell? ⟨gb349, 1, none⟩ = some (.slice none 0 0) := (blk_cell BK349.out 1).trans rfl
    have hcz49_2 : w39.cell? ⟨gb349, 2, none⟩ = some (.slice none 0 0) := (blk_cell BK349.out 2).trans rfl
    have hfz49_0 := blk_frozen BK349.out 0
    have hfz49_1 := blk_frozen BK349.out 1
    have hfz49_2 := blk_frozen BK349.out 2
    go_wp2
    repeat (go_quiet (fail); try go_wp2)
    go_meet
    case rel => exact ⟨_, (((t342.length : Int) != (t318.length : Int))), (by first | rfl | (simp; done) | (simp [*]; done)), H', ⟨by have := HJ9.out; first | omega | exact Nat.le_refl _⟩, ⟨by (with_reducible repeat (first | apply Kd.R_alloc | apply Kd.R_drewN | apply Kd.R_drew)); exact Kd.R_mono (Kd.R_far (p := ⟨gb349, 2, none⟩) (Kd.R_far (p := ⟨gb349, 1, none⟩) (Kd.R_far (p := ⟨gb349, 0, none⟩) (Kd.R_types HO_7.out BK349.out (by decide)) (fun _ hk => hk.2) (.slice Ao40 t339.length co40)) (fun _ hk => hk.2) (.slice Ao43 t342.length co43)) (fun _ hk => hk.2) (.slice Ao44 t345.length co44)) (fun _ hk => trivial)⟩, ⟨by (with_reducible repeat (first | apply Kd.R_alloc | apply Kd.R_drewN | apply Kd.R_drew)); exact Kd.R_mono (Kd.R_far (p := ⟨gb349, 2, none⟩) (Kd.R_far (p := ⟨gb349, 1, none⟩) (Kd.R_far (p := ⟨gb349, 0, none⟩) (Kd.R_types HO_8.out BK349.out (by decide)) (fun _ hk => hk.2) (.slice Ao40 t339.length co40)) (fun _ hk => hk.2) (.slice Ao43 t342.length co43)) (fun _ hk => hk.2) (.slice Ao44 t345.length co44)) (fun _ hk => ⟨hk.1.1.2, ⟨hk.1.1.1.1, ⟨hk.1.1.1.2.1, ⟨hk.1.1.1.2.2, hk.1.2⟩⟩⟩⟩)⟩, ⟨by (with_reducible repeat (first | apply Kd.R_alloc | apply Kd.R_drewN | apply Kd.R_drew)); exact Kd.R_mono (Kd.R_far (p := ⟨gb349, 2, none⟩) (Kd.R_far (p := ⟨gb349, 1, none⟩) (Kd.R_far (p := ⟨gb349, 0, none⟩) (Kd.R_types HO338.out BK349.out (by decide)) (fun _ hk => hk.2) (.slice Ao40 t339.length co40)) (fun _ hk => hk.2) (.slice Ao43 t342.length co43)) (fun _ hk => hk.2) (.slice Ao44 t345.length co44)) (fun _ hk => ⟨hk.1.1.1.1.1.2, ⟨hk.1.1.1.1.2, ⟨hk.1.1.1.2, ⟨hk.1.1.2, hk.1.2⟩⟩⟩⟩)⟩, ⟨by (with_reducible repeat (first | apply Kd.R_alloc | apply Kd.R_drewN | apply Kd.R_drew)); exact Kd.R_mono (Kd.R_far (p := ⟨gb349, 2, none⟩) (Kd.R_far (p := ⟨gb349, 1, none⟩) (Kd.R_far (p := ⟨gb349, 0, none⟩) (Kd.R_types HO_335000.out BK349.out (by decide)) (fun _ hk => hk.2) (.slice Ao40 t339.length co40)) (fun _ hk => hk.2) (.slice Ao43 t342.length co43)) (fun _ hk => hk.2) (.slice Ao44 t345.length co44)) (fun _ hk => ⟨hk.1.1.1.1, ⟨hk.1.1.2, ⟨hk.1.1.1.2.1, ⟨hk.1.1.1.2.2, hk.1.2⟩⟩⟩⟩)⟩, ⟨by (with_reducible repeat (first | apply Kd.R_alloc | apply Kd.R_drewN | apply Kd.R_drew)); exact Kd.R_mono (Kd.R_far (p := ⟨gb349, 2, none⟩) (Kd.R_far (p := ⟨gb349, 1, none⟩) (Kd.R_far (p := ⟨gb349, 0, none⟩) (Kd.R_types HO_335001.out BK349.out (by decide)) (fun _ hk => hk.2) (.slice Ao40 t339.length co40)) (fun _ hk => hk.2) (.slice Ao43 t342.length co43)) (fun _ hk => hk.2) (.slice Ao44 t345.length co44)) (fun _ hk => trivial)⟩, ⟨by (with_reducible repeat (first | apply Kd.R_alloc | apply Kd.R_drewN | apply Kd.R_drew)); exact Kd.R_mono (Kd.R_far (p := ⟨gb349, 2, none⟩) (Kd.R_far (p := ⟨gb349, 1, none⟩) (Kd.R_far (p := ⟨gb349, 0, none⟩) (Kd.R_types HO_335002.out BK349.out (by decide)) (fun _ hk => hk.2) (.slice Ao40 t339.length co40)) (fun _ hk => hk.2) (.slice Ao43 t342.length co43)) (fun _ hk => hk.2) (.slice Ao44 t345.length co44)) (fun _ hk => ⟨hk.1.1.1.1, ⟨hk.1.1.2, ⟨hk.1.1.1.2.1, ⟨hk.1.1.1.2.2, hk.1.2⟩⟩⟩⟩)⟩, ⟨by (with_reducible repeat (first | apply Kd.R_alloc | apply Kd.R_drewN | apply Kd.R_drew)); exact Kd.R_mono (Kd.R_far (p := ⟨gb349, 2, none⟩) (Kd.R_far (p := ⟨gb349, 1, none⟩) (Kd.R_far (p := ⟨gb349, 0, none⟩) (Kd.R_types HO_335003.out BK349.out (by decide)) (fun _ hk => hk.2) (.slice Ao40 t339.length co40)) (fun _ hk => hk.2) (.slice Ao43 t342.length co43)) (fun _ hk => hk.2) (.slice Ao44 t345.length co44)) (fun _ hk => ⟨hk.1.1.1.1, ⟨hk.1.1.2, ⟨hk.1.1.1.2.1, ⟨hk.1.1.1.2.2, hk.1.2⟩⟩⟩⟩)⟩, ⟨by (with_reducible repeat (first | apply Kd.S_alloc | apply Kd.S_drewN | apply Kd.S_drew)); exact Kd.S_mono (Kd.S_far (p := ⟨gb349, 2, none⟩) (Kd.S_far (p := ⟨gb349, 1, none⟩) (Kd.S_far (p := ⟨gb349, 0, none⟩) (Kd.S_types HO341.out BK349.out (by decide)) (fun _ hk => hk.2) (.slice Ao40 t339.length co40)) (fun _ hk => hk.2) (.slice Ao43 t342.length co43)) (fun _ hk => hk.2) (.slice Ao44 t345.length co44)) (fun _ hk => ⟨hk.1.1.1.1.1.2, ⟨hk.1.2, ⟨hk.1.1.1.1.2, ⟨hk.1.1.1.2, ⟨hk.1.1.2, ⟨hk.1.1.1.1.1.1.1, hk.1.1.1.1.1.1.2⟩⟩⟩⟩⟩⟩)⟩, ⟨by (with_reducible repeat (first | apply Kd.S_alloc | apply Kd.S_drewN | apply Kd.S_drew)); exact Kd.S_mono (Kd.S_far (p := ⟨gb349, 2, none⟩) (Kd.S_far (p := ⟨gb349, 1, none⟩) (Kd.S_far (p := ⟨gb349, 0, none⟩) (Kd.S_types HO344.out BK349.out (by decide)) (fun _ hk => hk.2) (.slice Ao40 t339.length co40)) (fun _ hk => hk.2) (.slice Ao43 t342.length co43)) (fun _ hk => hk.2) (.slice Ao44 t345.length co44)) (fun _ hk => ⟨hk.1.1.1.1.1.2, ⟨hk.1.2, ⟨hk.1.1.1.1.2, ⟨hk.1.1.1.2, ⟨hk.1.1.2, ⟨hk.1.1.1.1.1.1.1, hk.1.1.1.1.1.1.2⟩⟩⟩⟩⟩⟩)⟩, ⟨by (with_reducible repeat (first | apply Kd.R_alloc | apply Kd.R_drewN | apply Kd.R_drew)); exact Kd.R_mono (Kd.R_far (p := ⟨gb349, 2, none⟩) (Kd.R_far (p := ⟨gb349, 1, none⟩) (Kd.R_far (p := ⟨gb349, 0, none⟩) (Kd.R_types HO347.out BK349.out (by decide)) (fun _ hk => hk.2) (.slice Ao40 t339.length co40)) (fun _ hk => hk.2) (.slice Ao43 t342.length co43)) (fun _ hk => hk.2) (.slice Ao44 t345.length co44)) (fun _ hk => ⟨hk.1.1.1.1.1.2, ⟨hk.1.2, ⟨hk.1.1.1.1.2, ⟨hk.1.1.1.2, hk.1.1.2⟩⟩⟩⟩)⟩, ⟨by (with_reducible repeat (first | refine blk_drewN ?_ _ | refine blk_drew ?_ | refine blk_alloc ?_ _)); refine blk_far ?_ NB334_349.out _; (with_reducible repeat (first | refine blk_drewN ?_ _ | refine blk_drew ?_ | refine blk_alloc ?_ _)); refine blk_far ?_ NB334_349.out _; (with_reducible repeat (first | refine blk_drewN ?_ _ | refine blk_drew ?_ | refine blk_alloc ?_ _)); refine blk_far ?_ NB334_349.out _; (with_reducible repeat (first | refine blk_drewN ?_ _ | refine blk_drew ?_ | refine blk_alloc ?_ _)); exact BK334.out⟩, ⟨by (with_reducible repeat (first | refine blk_drewN ?_ _ | refine blk_drew ?_ | refine blk_alloc ?_ _)); refine blk_put (cs := #[.slice Ao40 t339.length co40, .slice Ao43 t342.length co43, .slice none 0 0]) ?_ 2 _ rfl; (with_reducible repeat (first | refine blk_drewN ?_ _ | refine blk_drew ?_ | refine blk_alloc ?_ _)); refine blk_put (cs := #[.slice Ao40 t339.length co40, .slice none 0 0, .slice none 0 0]) ?_ 1 _ rfl; (with_reducible repeat (first | refine blk_drewN ?_ _ | refine blk_drew ?_ | refine blk_alloc ?_ _)); refine blk_put (cs := #[.slice none 0 0, .slice none 0 0, .slice none 0 0]) ?_ 0 _ rfl; (with_reducible repeat (first | refine blk_drewN ?_ _ | refine blk_drew ?_ | refine blk_alloc ?_ _)); exact BK349.out⟩, ⟨by repeat (first | (with_reducible first | exact HB.out | apply below_alloc | apply pw_below_drewN | apply below_drew1 | refine below_set ?_ GE334.out | refine below_set ?_ GE349.out) | exact HB.out)⟩⟩
   case rest => as_aux_lemma =>
    clear HC34; (try clear c1); (try clear c2); (try clear p2); (try clear c3); (try clear c4); (try clear c5); (try clear c9); (try clear c9b0); (try clear c9b1); (try clear c23); (try clear c23b0); (try clear c23b1); (try clear c23b2); (try clear c24); (try clear c24b0); (try clear c24b1); (try clear c24b2); (try clear c25); (try clear c25b0); (try clear c25b1); (try clear c25b2); (try clear c31); (try clear c41); (try clear c45); (try clear c45b0); (try clear c45b1); (try clear c46); (try clear c46b0); (try clear c46b1); (try clear c46b2); (try clear c47); (try clear c47b0); (try clear c47b1); (try clear c47b2); (try clear c48); (try clear c50); (try clear c52); (try clear hcz19_0); (try clear hcz19_1)
    (try clear hcz19_2); (try clear hcz19_3); (try clear hcz27_0); (try clear hcz27_1); (try clear hcz27_2); (try clear hcz27_3); (try clear hcz28_0); (try clear hcz28_1); (try clear hcz28_2); (try clear hcz28_3); (try clear hcz29_0); (try clear hcz29_1); (try clear hcz29_2); (try clear hcz29_3); (try clear hcz30_0); (try clear hcz30_1); (try clear hcz30_2); (try clear hcz30_3); (try clear hcz36_0); (try clear hcz36_1); (try clear hcz36_2); (try clear hcz36_3); (try clear hcz42_0); (try clear hcz42_1); (try clear hcz42_2); (try clear hcz49_0); (try clear hcz49_1); (try clear hcz49_2); (try clear hcz51_0); (try clear hcz51_1); (try clear hcz51_2); (try clear hcz53_0); (try clear hcz53_1); (try clear hcz53_2)
    (try clear hfz19_0); (try clear hfz19_1); (try clear hfz19_2); (try clear hfz19_3); (try clear hfz27_0); (try clear hfz27_1); (try clear hfz27_2); (try clear hfz27_3); (try clear hfz28_0); (try clear hfz28_1); (try clear hfz28_2); (try clear hfz28_3); (try clear hfz29_0); (try clear hfz29_1); (try clear hfz29_2); (try clear hfz29_3); (try clear hfz30_0); (try clear hfz30_1); (try clear hfz30_2); (try clear hfz30_3); (try clear hfz36_0); (try clear hfz36_1); (try clear hfz36_2); (try clear hfz36_3); (try clear hfz42_0); (try clear hfz42_1); (try clear hfz42_2); (try clear hfz49_0); (try clear hfz49_1); (try clear hfz49_2); (try clear hfz51_0); (try clear hfz51_1); (try clear hfz51_2); (try clear hfz53_0)
    (try clear hfz53_1); (try clear hfz53_2); (try clear p2)
    obtain ⟨kq, x105_33, rfl, HA, HJ33, HO_7, HO_8, HO_11, HO_335000, HO_335001, HO_335002, HO_335003, HO_350000, HO_350001, HO_350002, BK334, BK349, HB⟩ := hcut
    cases kq with
    | zero => exact absurd HA.out (by simp [letterbaglaw28_SequenceExact.j1])
    | succ kj33 =>
     have H := HA.out; clear HA
     simp only [letterbaglaw28_SequenceExact.j1] at H
     by_cases c54 : x105_33 = true
     ·subst c54
      have H1 : (some false) = some r := by rw [if_pos rfl] at H; exact H
      clear H; have H := H1; clear H1
      obtain rfl := Option.some.inj H
      go_wp2
      repeat (go_quiet (fail); try go_wp2)
      go_ret
      exact ⟨by first | rfl | (simp [errW_none, errW_some] <;> rfl) | (simp [*, errW_none, errW_some] <;> rfl), by repeat (first | (with_reducible first | exact HB.out | apply below_alloc | apply pw_below_drewN | apply below_drew1 | refine below_set ?_ GE334.out | refine below_set ?_ GE349.out) | exact HB.out)⟩
     replace c54 := Bool.eq_false_iff.mpr c54
     subst c54
     have H1 : (letterbaglaw28_SequenceExact.l0 kj33 t315 t318 t336 t345 (t345.length : Int) 0 t321 t324 t327 t330 t339 t342 t345) = some r := by rw [if_neg (show ¬ (false = true) by decide)] at H; exact H
     clear H; have H := H1; clear H1
     have H' := Aside0.mk H
     clear H; have hnb55 := NB349_334.out; have hnc55 := NB334_349.out
     have hcz56_0 : wc.cell? ⟨gb349, 0, none⟩ = some (.slice Ao40 t339.length co40) := (blk_cell BK349.out 0).trans rfl
     have hcz56_1 : wc.cell? ⟨gb349, 1, none⟩ = some (.slice Ao43 t342.length co43) := (blk_cell BK349.out 1).trans rfl
     have hcz56_2 : wc.cell? ⟨gb349, 2, none⟩ = some (.slice Ao44 t345.length co44) := (blk_cell BK349.out 2).trans rfl
     have hfz56_0 := blk_frozen BK349.out 0
     have hfz56_1 := blk_frozen BK349.out 1
     have hfz56_2 := blk_frozen BK349.out 2
     go_wp2
     repeat (go_quiet (fail); try go_wp2)
     go_loopg [109] kj33 (fun kq v109 w' => ∃ (x109_3 : Int), v109 = .int .i64 x109_3 ∧ Aside0 (letterbaglaw28_SequenceExact.l0 kq t315 t318 t336 t345 (t345.length : Int) x109_3 t321 t324 t327 t330 t339 t342 t345 = some r) ∧ Aside0 (kq ≤ kj33) ∧ Aside0 (Kd.R k27 27 w' w.heap.size (fun _ => True) (.slice Ao14 t315.length co14) t315) ∧ Aside0 (Kd.R (Kd.int .i64) 3 w' w.heap.size (fun k_ => some k_ ≠ ((.slice Ao37 t336.length co37) : Value).ownBlock ∧ some k_ ≠ ((.slice Ao44 t345.length co44) : Value).ownBlock ∧ some k_ ≠ ((.slice Ao18 t321.length co18) : Value).ownBlock ∧ some k_ ≠ ((.slice Ao21 t327.length co21) : Value).ownBlock ∧ some k_ ≠ ((.slice Ao22 t330.length co22) : Value).ownBlock ∧ some k_ ≠ ((.slice Ao44 t345.length co44) : Value).ownBlock) (.slice Ao15 t318.length co15) t318) ∧ Aside0 (Kd.R (Kd.int .i64) 3 w' w.heap.size (fun k_ => some k_ ≠ ((.slice Ao15 t318.length co15) : Value).ownBlock ∧ some k_ ≠ ((.slice Ao44 t345.length co44) : Value).ownBlock ∧ some k_ ≠ ((.slice Ao18 t321.length co18) : Value).ownBlock ∧ some k_ ≠ ((.slice Ao21 t327.length co21) : Value).ownBlock ∧ some k_ ≠ ((.slice Ao22 t330.length co22) : Value).ownBlock ∧ some k_ ≠ ((.slice Ao44 t345.length co44) : Value).ownBlock) (.slice Ao37 t336.length co37) t336) ∧ Aside0 (Kd.R (Kd.int .i64) 3 w' w.heap.size (fun k_ => some k_ ≠ ((.slice Ao15 t318.length co15) : Value).ownBlock ∧ some k_ ≠ ((.slice Ao37 t336.length co37) : Value).ownBlock ∧ some k_ ≠ ((.slice Ao18 t321.length co18) : Value).ownBlock ∧ some k_ ≠ ((.slice Ao21 t327.length co21) : Value).ownBlock ∧ some k_ ≠ ((.slice Ao22 t330.length co22) : Value).ownBlock) (.slice Ao44 t345.length co44) t345) ∧ Aside0 (Kd.R (Kd.int .i64) 3 w' w.heap.size (fun k_ => some k_ ≠ ((.slice Ao15 t318.length co15) : Value).ownBlock ∧ some k_ ≠ ((.slice Ao37 t336.length co37) : Value).ownBlock ∧ some k_ ≠ ((.slice Ao44 t345.length co44) : Value).ownBlock ∧ some k_ ≠ ((.slice Ao21 t327.length co21) : Value).ownBlock ∧ some k_ ≠ ((.slice Ao22 t330.length co22) : Value).ownBlock ∧ some k_ ≠ ((.slice Ao44 t345.length co44) : Value).ownBlock) (.slice Ao18 t321.length co18) t321) ∧ Aside0 (Kd.R k60 60 w' w.heap.size (fun _ => True) (.slice Ao20 t324.length co20) t324) ∧ Aside0 (Kd.R (Kd.int .i64) 3 w' w.heap.size (fun k_ => some k_ ≠ ((.slice Ao15 t318.length co15) : Value).ownBlock ∧ some k_ ≠ ((.slice Ao37 t336.length co37) : Value).ownBlock ∧ some k_ ≠ ((.slice Ao44 t345.length co44) : Value).ownBlock ∧ some k_ ≠ ((.slice Ao18 t321.length co18) : Value).ownBlock ∧ some k_ ≠ ((.slice Ao22 t330.length co22) : Value).ownBlock ∧ some k_ ≠ ((.slice Ao44 t345.length co44) : Value).ownBlock) (.slice Ao21 t327.length co21) t327) ∧ Aside0 (Kd.R (Kd.int .i64) 3 w' w.heap.size (fun k_ => some k_ ≠ ((.slice Ao15 t318.length co15) : Value).ownBlock ∧ some k_ ≠ ((.slice Ao37 t336.length co37) : Value).ownBlock ∧ some k_ ≠ ((.slice Ao44 t345.length co44) : Value).ownBlock ∧ some k_ ≠ ((.slice Ao18 t321.length co18) : Value).ownBlock ∧ some k_ ≠ ((.slice Ao21 t327.length co21) : Value).ownBlock ∧ some k_ ≠ ((.slice Ao44 t345.length co44) : Value).ownBlock) (.slice Ao22 t330.length co22) t330) ∧ Aside0 (Kd.S (Kd.slice 3 (Kd.int .i64)) 24 w' w.heap.size (fun k_ => some k_ ≠ ((.slice Ao15 t318.length co15) : Value).ownBlock ∧ some k_ ≠ ((.slice Ao37 t336.length co37) : Value).ownBlock ∧ some k_ ≠ ((.slice Ao44 t345.length co44) : Value).ownBlock ∧ some k_ ≠ ((.slice Ao18 t321.length co18) : Value).ownBlock ∧ some k_ ≠ ((.slice Ao21 t327.length co21) : Value).ownBlock ∧ some k_ ≠ ((.slice Ao22 t330.length co22) : Value).ownBlock ∧ some k_ ≠ ((.slice Ao43 t342.length co43) : Value).ownBlock ∧ some k_ ≠ ((.slice Ao44 t345.length co44) : Value).ownBlock) (.slice Ao40 t339.length co40) t339) ∧ Aside0 (Kd.S (Kd.slice 3 (Kd.int .i64)) 24 w' w.heap.size (fun k_ => some k_ ≠ ((.slice Ao15 t318.length co15) : Value).ownBlock ∧ some k_ ≠ ((.slice Ao37 t336.length co37) : Value).ownBlock ∧ some k_ ≠ ((.slice Ao44 t345.length co44) : Value).ownBlock ∧ some k_ ≠ ((.slice Ao18 t321.length co18) : Value).ownBlock ∧ some k_ ≠ ((.slice Ao21 t327.length co21) : Value).ownBlock ∧ some k_ ≠ ((.slice Ao22 t330.length co22) : Value).ownBlock ∧ some k_ ≠ ((.slice Ao40 t339.length co40) : Value).ownBlock ∧ some k_ ≠ ((.slice Ao44 t345.length co44) : Value).ownBlock) (.slice Ao43 t342.length co43) t342) ∧ Aside0 (Kd.R (Kd.int .i64) 3 w' w.heap.size (fun k_ => some k_ ≠ ((.slice Ao15 t318.length co15) : Value).ownBlock ∧ some k_ ≠ ((.slice Ao37 t336.length co37) : Value).ownBlock ∧ some k_ ≠ ((.slice Ao18 t321.length co18) : Value).ownBlock ∧ some k_ ≠ ((.slice Ao21 t327.length co21) : Value).ownBlock ∧ some k_ ≠ ((.slice Ao22 t330.length co22) : Value).ownBlock) (.slice Ao44 t345.length co44) t345) ∧ Aside0 (w'.heap[gb334]? = some (.cells #[(.slice Ao18 t321.length co18), (.slice Ao20 t324.length co20), (.slice Ao21 t327.length co21), (.slice Ao22 t330.length co22)] 38 (0, 0))) ∧ Aside0 (w'.heap[gb349]? = some (.cells #[(.slice Ao40 t339.length co40), (.slice Ao43 t342.length co43), (.slice Ao44 t345.length co44)] 50 (0, 0))) ∧ Aside0 (Below w.heap.size w w'))
     case atStart => exact ⟨(0), (by first | rfl | (simp; done) | (simp [*]; done)), H', ⟨Nat.le_refl _⟩, ⟨by (with_reducible repeat (first | apply Kd.R_alloc | apply Kd.R_drewN | apply Kd.R_drew)); exact HO_7.out⟩, ⟨by (with_reducible repeat (first | apply Kd.R_alloc | apply Kd.R_drewN | apply Kd.R_drew)); exact Kd.R_mono HO_8.out (fun _ hk => ⟨hk.1, ⟨hk.2.2.2.2, ⟨hk.2.1, ⟨hk.2.2.1, ⟨hk.2.2.2.1, hk.2.2.2.2⟩⟩⟩⟩⟩)⟩, ⟨by (with_reducible repeat (first | apply Kd.R_alloc | apply Kd.R_drewN | apply Kd.R_drew)); exact Kd.R_mono HO_11.out (fun _ hk => ⟨hk.1, ⟨hk.2.2.2.2, ⟨hk.2.1, ⟨hk.2.2.1, ⟨hk.2.2.2.1, hk.2.2.2.2⟩⟩⟩⟩⟩)⟩, ⟨by (with_reducible repeat (first | apply Kd.R_alloc | apply Kd.R_drewN | apply Kd.R_drew)); exact HO_350002.out⟩, ⟨by (with_reducible repeat (first | apply Kd.R_alloc | apply Kd.R_drewN | apply Kd.R_drew)); exact Kd.R_mono HO_335000.out (fun _ hk => ⟨hk.1, ⟨hk.2.1, ⟨hk.2.2.2.2, ⟨hk.2.2.1, ⟨hk.2.2.2.1, hk.2.2.2.2⟩⟩⟩⟩⟩)⟩, ⟨by (with_reducible repeat (first | apply Kd.R_alloc | apply Kd.R_drewN | apply Kd.R_drew)); exact HO_335001.out⟩, ⟨by (with_reducible repeat (first | apply Kd.R_alloc | apply Kd.R_drewN | apply Kd.R_drew)); exact Kd.R_mono HO_335002.out (fun _ hk => ⟨hk.1, ⟨hk.2.1, ⟨hk.2.2.2.2, ⟨hk.2.2.1, ⟨hk.2.2.2.1, hk.2.2.2.2⟩⟩⟩⟩⟩)⟩, ⟨by (with_reducible repeat (first | apply Kd.R_alloc | apply Kd.R_drewN | apply Kd.R_drew)); exact Kd.R_mono HO_335003.out (fun _ hk => ⟨hk.1, ⟨hk.2.1, ⟨hk.2.2.2.2, ⟨hk.2.2.1, ⟨hk.2.2.2.1, hk.2.2.2.2⟩⟩⟩⟩⟩)⟩, ⟨by (with_reducible repeat (first | apply Kd.S_alloc | apply Kd.S_drewN | apply Kd.S_drew)); exact Kd.S_mono HO_350000.out (fun _ hk => ⟨hk.1, ⟨hk.2.1, ⟨hk.2.2.2.2.2.2, ⟨hk.2.2.1, ⟨hk.2.2.2.1, ⟨hk.2.2.2.2.1, ⟨hk.2.2.2.2.2.1, hk.2.2.2.2.2.2⟩⟩⟩⟩⟩⟩⟩)⟩, ⟨by (with_reducible repeat (first | apply Kd.S_alloc | apply Kd.S_drewN | apply Kd.S_drew)); exact Kd.S_mono HO_350001.out (fun _ hk => ⟨hk.1, ⟨hk.2.1, ⟨hk.2.2.2.2.2.2, ⟨hk.2.2.1, ⟨hk.2.2.2.1, ⟨hk.2.2.2.2.1, ⟨hk.2.2.2.2.2.1, hk.2.2.2.2.2.2⟩⟩⟩⟩⟩⟩⟩)⟩, ⟨by (with_reducible repeat (first | apply Kd.R_alloc | apply Kd.R_drewN | apply Kd.R_drew)); exact HO_350002.out⟩, ⟨by (with_reducible repeat (first | refine blk_drewN ?_ _ | refine blk_drew ?_ | refine blk_alloc ?_ _)); exact BK334.out⟩, ⟨by (with_reducible repeat (first | refine blk_drewN ?_ _ | refine blk_drew ?_ | refine blk_alloc ?_ _)); exact BK349.out⟩, ⟨by repeat (first | (with_reducible first | exact HB.out | apply below_alloc | apply pw_below_drewN | apply below_drew1 | refine below_set ?_ GE334.out | refine below_set ?_ GE349.out) | exact HB.out)⟩⟩
     case round => as_aux_lemma =>
      clear H'; (try clear c1); (try clear c2); (try clear p2); (try clear c3); (try clear c4); (try clear c5); (try clear c9); (try clear c9b0); (try clear c9b1); (try clear c23); (try clear c23b0); (try clear c23b1); (try clear c23b2); (try clear c24); (try clear c24b0); (try clear c24b1); (try clear c24b2); (try clear c25); (try clear c25b0); (try clear c25b1); (try clear c25b2); (try clear c31); (try clear c41); (try clear c45); (try clear c45b0); (try clear c45b1); (try clear c46); (try clear c46b0); (try clear c46b1); (try clear c46b2); (try clear c47); (try clear c47b0); (try clear c47b1); (try clear c47b2); (try clear c48); (try clear c50); (try clear c52); (try clear c54); (try clear c55)
      (try clear hcz19_0); (try clear hcz19_1); (try clear hcz19_2); (try clear hcz19_3); (try clear hcz27_0); (try clear hcz27_1); (try clear hcz27_2); (try clear hcz27_3); (try clear hcz28_0); (try clear hcz28_1); (try clear hcz28_2); (try clear hcz28_3); (try clear hcz29_0); (try clear hcz29_1); (try clear hcz29_2); (try clear hcz29_3); (try clear hcz30_0); (try clear hcz30_1); (try clear hcz30_2); (try clear hcz30_3); (try clear hcz36_0); (try clear hcz36_1); (try clear hcz36_2); (try clear hcz36_3); (try clear hcz42_0); (try clear hcz42_1); (try clear hcz42_2); (try clear hcz49_0); (try clear hcz49_1); (try clear hcz49_2); (try clear hcz51_0); (try clear hcz51_1); (try clear hcz51_2); (try clear hcz53_0)
      (try clear hcz53_1); (try clear hcz53_2); (try clear hcz56_0); (try clear hcz56_1); (try clear hcz56_2); (try clear hfz19_0); (try clear hfz19_1); (try clear hfz19_2); (try clear hfz19_3); (try clear hfz27_0); (try clear hfz27_1); (try clear hfz27_2); (try clear hfz27_3); (try clear hfz28_0); (try clear hfz28_1); (try clear hfz28_2); (try clear hfz28_3); (try clear hfz29_0); (try clear hfz29_1); (try clear hfz29_2); (try clear hfz29_3); (try clear hfz30_0); (try clear hfz30_1); (try clear hfz30_2); (try clear hfz30_3); (try clear hfz36_0); (try clear hfz36_1); (try clear hfz36_2); (try clear hfz36_3); (try clear hfz42_0); (try clear hfz42_1); (try clear hfz42_2); (try clear hfz49_0); (try clear hfz49_1)
      (try clear hfz49_2); (try clear hfz51_0); (try clear hfz51_1); (try clear hfz51_2); (try clear hfz53_0); (try clear hfz53_1); (try clear hfz53_2); (try clear hfz56_0); (try clear hfz56_1); (try clear hfz56_2); (try clear p2)
      obtain ⟨x109_3, rfl, HA, HK3, HO_7, HO_8, HO_11, HO_107, HO_335000, HO_335001, HO_335002, HO_335003, HO_350000, HO_350001, HO_350002, BK334, BK349, HB⟩ := hrel
      cases gk with
      | zero => exact absurd HA.out (by simp [letterbaglaw28_SequenceExact.l0])
      | succ k3 =>
       have H := HA.out; clear HA
       simp only [letterbaglaw28_SequenceExact.l0] at H
       by_cases c57 : x109_3 < (t345.length : Int)
       ·rw [if_pos c57] at H
        have c57b0 : decide (x109_3 < (t345.length : Int)) = true := decide_eq_true c57
        clear c57
        by_cases c58 : 0 ≤ x109_3
        rotate_left
        ·rw [if_neg c58] at H
         exact absurd H (by simp)
        rw [if_pos c58] at H
        have c58b0 : decide (0 ≤ x109_3) = true := decide_eq_true c58
        clear c58
        by_cases c59 : x109_3 < (t345.length : Int)
        rotate_left
        ·rw [if_neg c59] at H
         exact absurd H (by simp)
        rw [if_pos c59] at H
        have c59b0 : decide (x109_3 < (t345.length : Int)) = true := decide_eq_true c59
        clear c59
        have HC60 := Aside0.mk H
        clear H
        have p350 : 0 ≤ (x109_3 : Int) := of_decide_eq_true (by first | (with_reducible assumption) | assumption)
        have q350 : x109_3 < (t345.length : Int) := of_decide_eq_true (by first | (with_reducible assumption) | assumption)
        obtain ⟨ad350, e350, hx350_0⟩ := Kd.at_int (Kd.R_reads' HO_107.out).2.2 x109_3 p350 q350
        cases e350
        replace p350 := eq_true p350
        replace q350 := eq_true q350
        go_upto_region 16 with (fail)
        repeat (go_quiet (fail); go_upto_region 16 with (fail))
        go_cut [121] (fun v121 wc => ∃ (kq : Nat) (x121_59 : Bool), v121 = .bool x121_59 ∧ Aside0 (letterbaglaw28_SequenceExact.j3 kq t315 t318 t336 x109_3 (rd t345 x109_3) t345 (t345.length : Int) x109_3 x121_59 t321 t324 t327 t330 t339 t342 t345 = some r) ∧ Aside0 (kq ≤ k3) ∧ Aside0 (Kd.R k27 27 wc w.heap.size (fun _ => True) (.slice Ao14 t315.length co14) t315) ∧ Aside0 (Kd.R (Kd.int .i64) 3 wc w.heap.size (fun k_ => some k_ ≠ ((.slice Ao37 t336.length co37) : Value).ownBlock ∧ some k_ ≠ ((.slice (some ad350) t345.length co44) : Value).ownBlock ∧ some k_ ≠ ((.slice Ao18 t321.length co18) : Value).ownBlock ∧ some k_ ≠ ((.slice Ao21 t327.length co21) : Value).ownBlock ∧ some k_ ≠ ((.slice Ao22 t330.length co22) : Value).ownBlock ∧ some k_ ≠ ((.slice (some ad350) t345.length co44) : Value).ownBlock) (.slice Ao15 t318.length co15) t318) ∧ Aside0 (Kd.R (Kd.int .i64) 3 wc w.heap.size (fun k_ => some k_ ≠ ((.slice Ao15 t318.length co15) : Value).ownBlock ∧ some k_ ≠ ((.slice (some ad350) t345.length co44) : Value).ownBlock ∧ some k_ ≠ ((.slice Ao18 t321.length co18) : Value).ownBlock ∧ some k_ ≠ ((.slice Ao21 t327.length co21) : Value).ownBlock ∧ some k_ ≠ ((.slice Ao22 t330.length co22) : Value).ownBlock ∧ some k_ ≠ ((.slice (some ad350) t345.length co44) : Value).ownBlock) (.slice Ao37 t336.length co37) t336) ∧ Aside0 (Kd.R (Kd.int .i64) 3 wc w.heap.size (fun k_ => some k_ ≠ ((.slice Ao15 t318.length co15) : Value).ownBlock ∧ some k_ ≠ ((.slice Ao37 t336.length co37) : Value).ownBlock ∧ some k_ ≠ ((.slice Ao18 t321.length co18) : Value).ownBlock ∧ some k_ ≠ ((.slice Ao21 t327.length co21) : Value).ownBlock ∧ some k_ ≠ ((.slice Ao22 t330.length co22) : Value).ownBlock) (.slice (some ad350) t345.length co44) t345) ∧ Aside0 (Kd.R (Kd.int .i64) 3 wc w.heap.size (fun k_ => some k_ ≠ ((.slice Ao15 t318.length co15) : Value).ownBlock ∧ some k_ ≠ ((.slice Ao37 t336.length co37) : Value).ownBlock ∧ some k_ ≠ ((.slice (some ad350) t345.length co44) : Value).ownBlock ∧ some k_ ≠ ((.slice Ao21 t327.length co21) : Value).ownBlock ∧ some k_ ≠ ((.slice Ao22 t330.length co22) : Value).ownBlock ∧ some k_ ≠ ((.slice (some ad350) t345.length co44) : Value).ownBlock) (.slice Ao18 t321.length co18) t321) ∧ Aside0 (Kd.R k60 60 wc w.heap.size (fun _ => True) (.slice Ao20 t324.length co20) t324) ∧ Aside0 (Kd.R (Kd.int .i64) 3 wc w.heap.size (fun k_ => some k_ ≠ ((.slice Ao15 t318.length co15) : Value).ownBlock ∧ some k_ ≠ ((.slice Ao37 t336.length co37) : Value).ownBlock ∧ some k_ ≠ ((.slice (some ad350) t345.length co44) : Value).ownBlock ∧ some k_ ≠ ((.slice Ao18 t321.length co18) : Value).ownBlock ∧ some k_ ≠ ((.slice Ao22 t330.length co22) : Value).ownBlock ∧ some k_ ≠ ((.slice (some ad350) t345.length co44) : Value).ownBlock) (.slice Ao21 t327.length co21) t327) ∧ Aside0 (Kd.R (Kd.int .i64) 3 wc w.heap.size (fun k_ => some k_ ≠ ((.slice Ao15 t318.length co15) : Value).ownBlock ∧ some k_ ≠ ((.slice Ao37 t336.length co37) : Value).ownBlock ∧ some k_ ≠ ((.slice (some ad350) t345.length co44) : Value).ownBlock ∧ some k_ ≠ ((.slice Ao18 t321.length co18) : Value).ownBlock ∧ some k_ ≠ ((.slice Ao21 t327.length co21) : Value).ownBlock ∧ some k_ ≠ ((.slice (some ad350) t345.length co44) : Value).ownBlock) (.slice Ao22 t330.length co22) t330) ∧ Aside0 (Kd.S (Kd.slice 3 (Kd.int .i64)) 24 wc w.heap.size (fun k_ => some k_ ≠ ((.slice Ao15 t318.length co15) : Value).ownBlock ∧ some k_ ≠ ((.slice Ao37 t336.length co37) : Value).ownBlock ∧ some k_ ≠ ((.slice (some ad350) t345.length co44) : Value).ownBlock ∧ some k_ ≠ ((.slice Ao18 t321.length co18) : Value).ownBlock ∧ some k_ ≠ ((.slice Ao21 t327.length co21) : Value).ownBlock ∧ some k_ ≠ ((.slice Ao22 t330.length co22) : Value).ownBlock ∧ some k_ ≠ ((.slice Ao43 t342.length co43) : Value).ownBlock ∧ some k_ ≠ ((.slice (some ad350) t345.length co44) : Value).ownBlock) (.slice Ao40 t339.length co40) t339) ∧ Aside0 (Kd.S (Kd.slice 3 (Kd.int .i64)) 24 wc w.heap.size (fun k_ => some k_ ≠ ((.slice Ao15 t318.length co15) : Value).ownBlock ∧ some k_ ≠ ((.slice Ao37 t336.length co37) : Value).ownBlock ∧ some k_ ≠ ((.slice (some ad350) t345.length co44) : Value).ownBlock ∧ some k_ ≠ ((.slice Ao18 t321.length co18) : Value).ownBlock ∧ some k_ ≠ ((.slice Ao21 t327.length co21) : Value).ownBlock ∧ some k_ ≠ ((.slice Ao22 t330.length co22) : Value).ownBlock ∧ some k_ ≠ ((.slice Ao40 t339.length co40) : Value).ownBlock ∧ some k_ ≠ ((.slice (some ad350) t345.length co44) : Value).ownBlock) (.slice Ao43 t342.length co43) t342) ∧ Aside0 (Kd.R (Kd.int .i64) 3 wc w.heap.size (fun k_ => some k_ ≠ ((.slice Ao15 t318.length co15) : Value).ownBlock ∧ some k_ ≠ ((.slice Ao37 t336.length co37) : Value).ownBlock ∧ some k_ ≠ ((.slice Ao18 t321.length co18) : Value).ownBlock ∧ some k_ ≠ ((.slice Ao21 t327.length co21) : Value).ownBlock ∧ some k_ ≠ ((.slice Ao22 t330.length co22) : Value).ownBlock) (.slice (some ad350) t345.length co44) t345) ∧ Aside0 (wc.heap[gb334]? = some (.cells #[(.slice Ao18 t321.length co18), (.slice Ao20 t324.length co20), (.slice Ao21 t327.length co21), (.slice Ao22 t330.length co22)] 38 (0, 0))) ∧ Aside0 (wc.heap[gb349]? = some (.cells #[(.slice Ao40 t339.length co40), (.slice Ao43 t342.length co43), (.slice (some ad350) t345.length co44)] 50 (0, 0))) ∧ Aside0 (Below w.heap.size w wc))
        case first => as_aux_lemma =>
         have H := HC60.out; clear HC60
         by_cases c61 : (rd t345 x109_3) < 0
         ·rw [if_pos c61] at H
          have c61b0 : decide ((rd t345 x109_3) < 0) = true := decide_eq_true c61
          clear c61
          (first | rw [c61b0] | (simp only [i64_w, i32_w]; rw [c61b0]) | skip)
          have H' := Aside0.mk H
          clear H
          go_wp2
          repeat (go_quiet (fail); try go_wp2)
          go_meet
          case rel => exact ⟨_, (true), (by first | rfl | (simp; done) | (simp [*]; done)), H', ⟨by have := HJ9.out; have := HJ33.out; have := HK3.out; first | omega | exact Nat.le_refl _⟩, ⟨by (with_reducible repeat (first | apply Kd.R_alloc | apply Kd.R_drewN | apply Kd.R_drew)); exact HO_7.out⟩, ⟨by (with_reducible repeat (first | apply Kd.R_alloc | apply Kd.R_drewN | apply Kd.R_drew)); exact HO_8.out⟩, ⟨by (with_reducible repeat (first | apply Kd.R_alloc | apply Kd.R_drewN | apply Kd.R_drew)); exact HO_11.out⟩, ⟨by (with_reducible repeat (first | apply Kd.R_alloc | apply Kd.R_drewN | apply Kd.R_drew)); exact HO_107.out⟩, ⟨by (with_reducible repeat (first | apply Kd.R_alloc | apply Kd.R_drewN | apply Kd.R_drew)); exact HO_335000.out⟩, ⟨by (with_reducible repeat (first | apply Kd.R_alloc | apply Kd.R_drewN | apply Kd.R_drew)); exact HO_335001.out⟩, ⟨by (with_reducible repeat (first | apply Kd.R_alloc | apply Kd.R_drewN | apply Kd.R_drew)); exact HO_335002.out⟩, ⟨by (with_reducible repeat (first | apply Kd.R_alloc | apply Kd.R_drewN | apply Kd.R_drew)); exact HO_335003.out⟩, ⟨by (with_reducible repeat (first | apply Kd.S_alloc | apply Kd.S_drewN | apply Kd.S_drew)); exact HO_350000.out⟩, ⟨by (with_reducible repeat (first | apply Kd.S_alloc | apply Kd.S_drewN | apply Kd.S_drew)); exact HO_350001.out⟩, ⟨by (with_reducible repeat (first | apply Kd.R_alloc | apply Kd.R_drewN | apply Kd.R_drew)); exact HO_350002.out⟩, ⟨by (with_reducible repeat (first | refine blk_drewN ?_ _ | refine blk_drew ?_ | refine blk_alloc ?_ _)); exact BK334.out⟩, ⟨by (with_reducible repeat (first | refine blk_drewN ?_ _ | refine blk_drew ?_ | refine blk_alloc ?_ _)); exact BK349.out⟩, ⟨by repeat (first | (with_reducible first | exact HB.out | apply below_alloc | apply pw_below_drewN | apply below_drew1 | refine below_set ?_ GE334.out | refine below_set ?_ GE349.out) | exact HB.out)⟩⟩
         rw [if_neg c61] at H
         have c61b0 : decide ((rd t345 x109_3) < 0) = false := decide_eq_false c61
         clear c61
         (first | rw [c61b0] | (simp only [i64_w, i32_w]; rw [c61b0]) | skip)
         have H' := Aside0.mk H
         clear H
         go_wp2
         repeat (go_quiet (fail); try go_wp2)
         go_meet
         case rel => exact ⟨_, (decide ((rd t345 x109_3) ≥ (t336.length : Int))), (by first | rfl | (simp; done) | (simp [*]; done)), H', ⟨by have := HJ9.out; have := HJ33.out; have := HK3.out; first | omega | exact Nat.le_refl _⟩, ⟨by (with_reducible repeat (first | apply Kd.R_alloc | apply Kd.R_drewN | apply Kd.R_drew)); exact HO_7.out⟩, ⟨by (with_reducible repeat (first | apply Kd.R_alloc | apply Kd.R_drewN | apply Kd.R_drew)); exact HO_8.out⟩, ⟨by (with_reducible repeat (first | apply Kd.R_alloc | apply Kd.R_drewN | apply Kd.R_drew)); exact HO_11.out⟩, ⟨by (with_reducible repeat (first | apply Kd.R_alloc | apply Kd.R_drewN | apply Kd.R_drew)); exact HO_107.out⟩, ⟨by (with_reducible repeat (first | apply Kd.R_alloc | apply Kd.R_drewN | apply Kd.R_drew)); exact HO_335000.out⟩, ⟨by (with_reducible repeat (first | apply Kd.R_alloc | apply Kd.R_drewN | apply Kd.R_drew)); exact HO_335001.out⟩, ⟨by (with_reducible repeat (first | apply Kd.R_alloc | apply Kd.R_drewN | apply Kd.R_drew)); exact HO_335002.out⟩, ⟨by (with_reducible repeat (first | apply Kd.R_alloc | apply Kd.R_drewN | apply Kd.R_drew)); exact HO_335003.out⟩, ⟨by (with_reducible repeat (first | apply Kd.S_alloc | apply Kd.S_drewN | apply Kd.S_drew)); exact HO_350000.out⟩, ⟨by (with_reducible repeat (first | apply Kd.S_alloc | apply Kd.S_drewN | apply Kd.S_drew)); exact HO_350001.out⟩, ⟨by (with_reducible repeat (first | apply Kd.R_alloc | apply Kd.R_drewN | apply Kd.R_drew)); exact HO_350002.out⟩, ⟨by (with_reducible repeat (first | refine blk_drewN ?_ _ | refine blk_drew ?_ | refine blk_alloc ?_ _)); exact BK334.out⟩, ⟨by (with_reducible repeat (first | refine blk_drewN ?_ _ | refine blk_drew ?_ | refine blk_alloc ?_ _)); exact BK349.out⟩, ⟨by repeat (first | (with_reducible first | exact HB.out | apply below_alloc | apply pw_below_drewN | apply below_drew1 | refine below_set ?_ GE334.out | refine below_set ?_ GE349.out) | exact HB.out)⟩⟩
        case rest => as_aux_lemma =>
         clear HC60; (try clear c1); (try clear c2); (try clear p2); (try clear c3); (try clear p3); (try clear q3); (try clear hx3); (try clear c4); (try clear c5); (try clear c6); (try clear c9); (try clear c9b0); (try clear c9b1); (try clear c23); (try clear c23b0); (try clear c23b1); (try clear c23b2); (try clear c24); (try clear c24b0); (try clear c24b1); (try clear c24b2); (try clear c25); (try clear c25b0); (try clear c25b1); (try clear c25b2); (try clear c31); (try clear p35); (try clear q35); (try clear hx35); (try clear c41); (try clear c45); (try clear c45b0); (try clear c45b1); (try clear c46); (try clear c46b0); (try clear c46b1); (try clear c46b2); (try clear c47); (try clear c47b0)
         (try clear c47b1); (try clear c47b2); (try clear c48); (try clear c50); (try clear c52); (try clear c54); (try clear c55); (try clear c57); (try clear c57b0); (try clear c58); (try clear c58b0); (try clear c59); (try clear c59b0); (try clear c61); (try clear c61b0); (try clear hcz19_0); (try clear hcz19_1); (try clear hcz19_2); (try clear hcz19_3); (try clear hcz27_0); (try clear hcz27_1); (try clear hcz27_2); (try clear hcz27_3); (try clear hcz28_0); (try clear hcz28_1); (try clear hcz28_2); (try clear hcz28_3); (try clear hcz29_0); (try clear hcz29_1); (try clear hcz29_2); (try clear hcz29_3); (try clear hcz30_0); (try clear hcz30_1); (try clear hcz30_2); (try clear hcz30_3); (try clear hcz36_0)
         (try clear hcz36_1); (try clear hcz36_2); (try clear hcz36_3); (try clear hcz42_0); (try clear hcz42_1); (try clear hcz42_2); (try clear hcz49_0); (try clear hcz49_1); (try clear hcz49_2); (try clear hcz51_0); (try clear hcz51_1); (try clear hcz51_2); (try clear hcz53_0); (try clear hcz53_1); (try clear hcz53_2); (try clear hcz56_0); (try clear hcz56_1); (try clear hcz56_2); (try clear hfz19_0); (try clear hfz19_1); (try clear hfz19_2); (try clear hfz19_3); (try clear hfz27_0); (try clear hfz27_1); (try clear hfz27_2); (try clear hfz27_3); (try clear hfz28_0); (try clear hfz28_1); (try clear hfz28_2); (try clear hfz28_3); (try clear hfz29_0); (try clear hfz29_1); (try clear hfz29_2)
         (try clear hfz29_3); (try clear hfz30_0); (try clear hfz30_1); (try clear hfz30_2); (try clear hfz30_3); (try clear hfz36_0); (try clear hfz36_1); (try clear hfz36_2); (try clear hfz36_3); (try clear hfz42_0); (try clear hfz42_1); (try clear hfz42_2); (try clear hfz49_0); (try clear hfz49_1); (try clear hfz49_2); (try clear hfz51_0); (try clear hfz51_1); (try clear hfz51_2); (try clear hfz53_0); (try clear hfz53_1); (try clear hfz53_2); (try clear hfz56_0); (try clear hfz56_1); (try clear hfz56_2); (try clear hx350_0); (try clear p2); (try clear p350); (try clear q350)
         obtain ⟨kq, x121_59, rfl, HA, HJ59, HO_7, HO_8, HO_11, HO_107, HO_335000, HO_335001, HO_335002, HO_335003, HO_350000, HO_350001, HO_350002, BK334, BK349, HB⟩ := hcut
         cases kq with
         | zero => exact absurd HA.out (by simp [letterbaglaw28_SequenceExact.j3])
         | succ kj59 =>
          have H := HA.out; clear HA
          simp only [letterbaglaw28_SequenceExact.j3] at H
          by_cases c62 : x121_59 = true
          ·subst c62
           have H1 : (some false) = some r := by rw [if_pos rfl] at H; exact H
           clear H; have H := H1; clear H1
           obtain rfl := Option.some.inj H
           go_wp2
           repeat (go_quiet (fail); try go_wp2)
           go_ret
           exact ⟨by first | rfl | (simp [errW_none, errW_some] <;> rfl) | (simp [*, errW_none, errW_some] <;> rfl), by repeat (first | (with_reducible first | exact HB.out | apply below_alloc | apply pw_below_drewN | apply below_drew1 | refine below_set ?_ GE334.out | refine below_set ?_ GE349.out) | exact HB.out)⟩
          replace c62 := Bool.eq_false_iff.mpr c62
          subst c62
          have H1 : (if x109_3 = 0 then (letterbaglaw28_SequenceExact.l0 kj59 t315 t318 t336 t345 (t345.length : Int) (wrap64 (x109_3 + 1)) t321 t324 t327 t330 t339 t342 t345) else (if 0 ≤ (wrap64 (x109_3 - 1)) then (if (wrap64 (x109_3 - 1)) < (t345.length : Int) then (if 0 ≤ (rd t345 (wrap64 (x109_3 - 1))) then (if (rd t345 (wrap64 (x109_3 - 1))) < (t336.length : Int) then ((letterbaglaw28_at.f kj59 t315 (rd t336 (rd t345 (wrap64 (x109_3 - 1))))).bind fun t353 => (if 0 ≤ (rd t345 x109_3) then (if (rd t345 x109_3) < (t336.length : Int) then ((letterbaglaw28_at.f kj59 t315 (rd t336 (rd t345 x109_3))).bind fun t355 => (if t353 > t355 then (some false) else (if t353 = t355 then (if (rd t345 (wrap64 (x109_3 - 1))) ≥ (rd t345 x109_3) then (some false) else (letterbaglaw28_SequenceExact.l0 kj59 t315 t318 t336 t345 (t345.length : Int) (wrap64 (x109_3 + 1)) t321 t324 t327 t330 t339 t342 t345)) else (letterbaglaw28_SequenceExact.l0 kj59 t315 t318 t336 t345 (t345.length : Int) (wrap64 (x109_3 + 1)) t321 t324 t327 t330 t339 t342 t345)))) else (none)) else (none))) else (none)) else (none)) else (none)) else (none))) = some r := by rw [if_neg (show ¬ (false = true) by decide)] at H; exact H
          clear H; have H := H1; clear H1
          by_cases c63 : x109_3 = 0
          ·rw [if_pos c63] at H
           have c63b0 : (x109_3 == 0) = true := beq_iff_eq.mpr c63
           have c63b1 : (x109_3 != 0) = false := bne_eq_false_iff_eq.mpr c63
           clear c63
           have H' := Aside0.mk H
           clear H
           go_wp2
           repeat (go_quiet (fail); try go_wp2)
           go_roundg kj59
           case measure => have := HJ9.out; have := HJ33.out; have := HK3.out; have := HJ59.out; omega
           case rel => exact ⟨(wrap64 (x109_3 + 1)), (by first | rfl | (simp; done) | (simp [*]; done)), H', ⟨by have := HJ9.out; have := HJ33.out; have := HK3.out; have := HJ59.out; omega⟩, ⟨by (with_reducible repeat (first | apply Kd.R_alloc | apply Kd.R_drewN | apply Kd.R_drew)); exact HO_7.out⟩, ⟨by (with_reducible repeat (first | apply Kd.R_alloc | apply Kd.R_drewN | apply Kd.R_drew)); exact HO_8.out⟩, ⟨by (with_reducible repeat (first | apply Kd.R_alloc | apply Kd.R_drewN | apply Kd.R_drew)); exact HO_11.out⟩, ⟨by (with_reducible repeat (first | apply Kd.R_alloc | apply Kd.R_drewN | apply Kd.R_drew)); exact HO_107.out⟩, ⟨by (with_reducible repeat (first | apply Kd.R_alloc | apply Kd.R_drewN | apply Kd.R_drew)); exact HO_335000.out⟩, ⟨by (with_reducible repeat (first | apply Kd.R_alloc | apply Kd.R_drewN | apply Kd.R_drew)); exact HO_335001.out⟩, ⟨by (with_reducible repeat (first | apply Kd.R_alloc | apply Kd.R_drewN | apply Kd.R_drew)); exact HO_335002.out⟩, ⟨by (with_reducible repeat (first | apply Kd.R_alloc | apply Kd.R_drewN | apply Kd.R_drew)); exact HO_335003.out⟩, ⟨by (with_reducible repeat (first | apply Kd.S_alloc | apply Kd.S_drewN | apply Kd.S_drew)); exact HO_350000.out⟩, ⟨by (with_reducible repeat (first | apply Kd.S_alloc | apply Kd.S_drewN | apply Kd.S_drew)); exact HO_350001.out⟩, ⟨by (with_reducible repeat (first | apply Kd.R_alloc | apply Kd.R_drewN | apply Kd.R_drew)); exact HO_350002.out⟩, ⟨by (with_reducible repeat (first | refine blk_drewN ?_ _ | refine blk_drew ?_ | refine blk_alloc ?_ _)); exact BK334.out⟩, ⟨by (with_reducible repeat (first | refine blk_drewN ?_ _ | refine blk_drew ?_ | refine blk_alloc ?_ _)); exact BK349.out⟩, ⟨by repeat (first | (with_reducible first | exact HB.out | apply below_alloc | apply pw_below_drewN | apply below_drew1 | refine below_set ?_ GE334.out | refine below_set ?_ GE349.out) | exact HB.out)⟩⟩
          rw [if_neg c63] at H
          have c63b0 : (x109_3 == 0) = false := beq_eq_false_iff_ne.mpr c63
          have c63b1 : (x109_3 != 0) = true := bne_iff_ne.mpr c63
          obtain ⟨ji64, hji64⟩ : ∃ j_ : Int, (wrap64 (x109_3 - 1)) = j_ := ⟨_, rfl⟩
          replace H : (if 0 ≤ (ji64) then (if (ji64) < (t345.length : Int) then (if 0 ≤ (rd t345 (ji64)) then (if (rd t345 (ji64)) < (t336.length : Int) then ((letterbaglaw28_at.f kj59 t315 (rd t336 (rd t345 (ji64)))).bind fun t353 => (if 0 ≤ (rd t345 x109_3) then (if (rd t345 x109_3) < (t336.length : Int) then ((letterbaglaw28_at.f kj59 t315 (rd t336 (rd t345 x109_3))).bind fun t355 => (if t353 > t355 then (some false) else (if t353 = t355 then (if (rd t345 (ji64)) ≥ (rd t345 x109_3) then (some false) else (letterbaglaw28_SequenceExact.l0 kj59 t315 t318 t336 t345 (t345.length : Int) (wrap64 (x109_3 + 1)) t321 t324 t327 t330 t339 t342 t345)) else (letterbaglaw28_SequenceExact.l0 kj59 t315 t318 t336 t345 (t345.length : Int) (wrap64 (x109_3 + 1)) t321 t324 t327 t330 t339 t342 t345)))) else (none)) else (none))) else (none)) else (none)) else (none)) else (none)) = some r := by first | (rw [hji64] at H; exact H) | (simp only [hji64] at H ⊢; exact H)
          have hji64w : (IntKind.i64.wrap (x109_3 - 1)) = ji64 := (i64_w _).trans hji64
          by_cases c65 : 0 ≤ (ji64)
          rotate_left
          ·rw [if_neg c65] at H
           exact absurd H (by simp)
          rw [if_pos c65] at H
          have c65b0 : decide (0 ≤ (ji64)) = true := decide_eq_true c65
          clear c65
          by_cases c66 : (ji64) < (t345.length : Int)
          rotate_left
          ·rw [if_neg c66] at H
           exact absurd H (by simp)
          rw [if_pos c66] at H
          have c66b0 : decide ((ji64) < (t345.length : Int)) = true := decide_eq_true c66
          clear c66
          by_cases c67 : 0 ≤ (rd t345 (ji64))
          rotate_left
          ·rw [if_neg c67] at H
           exact absurd H (by simp)
          rw [if_pos c67] at H
          have c67b0 : decide (0 ≤ (rd t345 (ji64))) = true := decide_eq_true c67
          clear c67
          by_cases c68 : (rd t345 (ji64)) < (t336.length : Int)
          rotate_left
          ·rw [if_neg c68] at H
           exact absurd H (by simp)
          rw [if_pos c68] at H
          have c68b0 : decide ((rd t345 (ji64)) < (t336.length : Int)) = true := decide_eq_true c68
          clear c68
          replace H := Option.bind_eq_some_iff.mp H
          obtain ⟨t353, A690, H⟩ := H
          replace H : (if 0 ≤ (rd t345 x109_3) then (if (rd t345 x109_3) < (t336.length : Int) then ((letterbaglaw28_at.f kj59 t315 (rd t336 (rd t345 x109_3))).bind fun t355 => (if t353 > t355 then (some false) else (if t353 = t355 then (if (rd t345 (ji64)) ≥ (rd t345 x109_3) then (some false) else (letterbaglaw28_SequenceExact.l0 kj59 t315 t318 t336 t345 (t345.length : Int) (wrap64 (x109_3 + 1)) t321 t324 t327 t330 t339 t342 t345)) else (letterbaglaw28_SequenceExact.l0 kj59 t315 t318 t336 t345 (t345.length : Int) (wrap64 (x109_3 + 1)) t321 t324 t327 t330 t339 t342 t345)))) else (none)) else (none)) = some r := H
          have A69 := Aside0.mk A690
          clear A690
          by_cases c70 : 0 ≤ (rd t345 x109_3)
          rotate_left
          ·rw [if_neg c70] at H
           exact absurd H (by simp)
          rw [if_pos c70] at H
          have c70b0 : decide (0 ≤ (rd t345 x109_3)) = true := decide_eq_true c70
          clear c70
          by_cases c71 : (rd t345 x109_3) < (t336.length : Int)
          rotate_left
          ·rw [if_neg c71] at H
           exact absurd H (by simp)
          rw [if_pos c71] at H
          have c71b0 : decide ((rd t345 x109_3) < (t336.length : Int)) = true := decide_eq_true c71
          clear c71
          replace H := Option.bind_eq_some_iff.mp H
          obtain ⟨t355, A720, H⟩ := H
          replace H : (if t353 > t355 then (some false) else (if t353 = t355 then (if (rd t345 (ji64)) ≥ (rd t345 x109_3) then (some false) else (letterbaglaw28_SequenceExact.l0 kj59 t315 t318 t336 t345 (t345.length : Int) (wrap64 (x109_3 + 1)) t321 t324 t327 t330 t339 t342 t345)) else (letterbaglaw28_SequenceExact.l0 kj59 t315 t318 t336 t345 (t345.length : Int) (wrap64 (x109_3 + 1)) t321 t324 t327 t330 t339 t342 t345))) = some r := H
          have A72 := Aside0.mk A720
          clear A720
          by_cases c73 : t353 > t355
          ·rw [if_pos c73] at H
           have c73b0 : decide (t355 < t353) = true := decide_eq_true c73
           clear c73
           obtain rfl := Option.some.inj H
           have hnb74 := NB349_334.out; have hnc74 := NB334_349.out
           have hcz75_0 : wc.cell? ⟨gb349, 0, none⟩ = some (.slice Ao40 t339.length co40) := (blk_cell BK349.out 0).trans rfl
           have hcz75_1 : wc.cell? ⟨gb349, 1, none⟩ = some (.slice Ao43 t342.length co43) := (blk_cell BK349.out 1).trans rfl
           have hcz75_2 : wc.cell? ⟨gb349, 2, none⟩ = some (.slice (some ad350) t345.length co44) := (blk_cell BK349.out 2).trans rfl
           have hfz75_0 := blk_frozen BK349.out 0
           have hfz75_1 := blk_frozen BK349.out 1
           have hfz75_2 := blk_frozen BK349.out 2
           have p351 : 0 ≤ ((ji64) : Int) := of_decide_eq_true (by first | (with_reducible assumption) | assumption)
           have q351 : (ji64) < (t345.length : Int) := of_decide_eq_true (by first | (with_reducible assumption) | assumption)
           obtain ⟨ad351, e351, hx351_0⟩ := Kd.at_int (Kd.R_reads' HO_350002.out).2.2 (ji64) p351 q351
           obtain rfl : ad350 = ad351 := (by injection e351)
           replace p351 := eq_true p351
           replace q351 := eq_true q351
           have p352 : 0 ≤ ((rd t345 (ji64)) : Int) := of_decide_eq_true (by first | (with_reducible assumption) | assumption)
           have q352 : (rd t345 (ji64)) < (t336.length : Int) := of_decide_eq_true (by first | (with_reducible assumption) | assumption)
           obtain ⟨ad352, e352, hx352_0⟩ := Kd.at_int (Kd.R_reads' HO_11.out).2.2 (rd t345 (ji64)) p352 q352
           cases e352
           replace p352 := eq_true p352
           replace q352 := eq_true q352
           go_wp2_with (first | (go_at_call 24; (with_reducible refine (letterbaglaw28_at.calls kj59 _ _ t315 (rd t336 (rd t345 (ji64))) t353 _ ?side1 ?side2 A69.out).mono ?_); (case side1 => repeat (first | exact (Kd.R_reads' HO_7.out).2.2 | (with_reducible refine Kd.C_alloc ?_ _) | (with_reducible refine Kd.C_drewN ?_ _) | (with_reducible refine Kd.C_drew ?_))); (case side2 => exact (Kd.R_reads' HO_7.out).2.1); rintro e w' ⟨rfl, ⟨nd, rfl⟩⟩; (try first | exact ⟨rfl, _, World.drewN_drewN _ _ _⟩ | exact ⟨rfl, _, Eq.trans (World.drewN_drewN _ _ _) (congrArg (World.drewN _) (Nat.add_assoc _ _ _))⟩); have p354 : 0 ≤ ((rd t345 x109_3) : Int) := of_decide_eq_true (by first | (with_reducible assumption) | assumption); have q354 : (rd t345 x109_3) < (t336.length : Int) := of_decide_eq_true (by first | (with_reducible assumption) | assumption); obtain ⟨ad354, e354, hx354_0⟩ := Kd.at_int (Kd.R_reads' HO_11.out).2.2 (rd t345 x109_3) p354 q354; obtain rfl : ad352 = ad354 := (by injection e354); replace p354 := eq_true p354; replace q354 := eq_true q354) | (go_at_call 24; (with_reducible refine (letterbaglaw28_at.calls kj59 _ _ t315 (rd t336 (rd t345 x109_3)) t355 _ ?side1 ?side2 A72.out).mono ?_); (case side1 => repeat (first | exact (Kd.R_reads' HO_7.out).2.2 | (with_reducible refine Kd.C_alloc ?_ _) | (with_reducible refine Kd.C_drewN ?_ _) | (with_reducible refine Kd.C_drew ?_))); (case side2 => exact (Kd.R_reads' HO_7.out).2.1); rintro e w' ⟨rfl, ⟨nd, rfl⟩⟩; (try first | exact ⟨rfl, _, World.drewN_drewN _ _ _⟩ | exact ⟨rfl, _, Eq.trans (World.drewN_drewN _ _ _) (congrArg (World.drewN _) (Nat.add_assoc _ _ _))⟩)))
           repeat (go_quiet (first | (go_at_call 24; (with_reducible refine (letterbaglaw28_at.calls kj59 _ _ t315 (rd t336 (rd t345 (ji64))) t353 _ ?side1 ?side2 A69.out).mono ?_); (case side1 => repeat (first | exact (Kd.R_reads' HO_7.out).2.2 | (with_reducible refine Kd.C_alloc ?_ _) | (with_reducible refine Kd.C_drewN ?_ _) | (with_reducible refine Kd.C_drew ?_))); (case side2 => exact (Kd.R_reads' HO_7.out).2.1); rintro e w' ⟨rfl, ⟨nd, rfl⟩⟩; (try first | exact ⟨rfl, _, World.drewN_drewN _ _ _⟩ | exact ⟨rfl, _, Eq.trans (World.drewN_drewN _ _ _) (congrArg (World.drewN _) (Nat.add_assoc _ _ _))⟩); have p354 : 0 ≤ ((rd t345 x109_3) : Int) := of_decide_eq_true (by first | (with_reducible assumption) | assumption); have q354 : (rd t345 x109_3) < (t336.length : Int) := of_decide_eq_true (by first | (with_reducible assumption) | assumption); obtain ⟨ad354, e354, hx354_0⟩ := Kd.at_int (Kd.R_reads' HO_11.out).2.2 (rd t345 x109_3) p354 q354; obtain rfl : ad352 = ad354 := (by injection e354); replace p354 := eq_true p354; replace q354 := eq_true q354) | (go_at_call 24; (with_reducible refine (letterbaglaw28_at.calls kj59 _ _ t315 (rd t336 (rd t345 x109_3)) t355 _ ?side1 ?side2 A72.out).mono ?_); (case side1 => repeat (first | exact (Kd.R_reads' HO_7.out).2.2 | (with_reducible refine Kd.C_alloc ?_ _) | (with_reducible refine Kd.C_drewN ?_ _) | (with_reducible refine Kd.C_drew ?_))); (case side2 => exact (Kd.R_reads' HO_7.out).2.1); rintro e w' ⟨rfl, ⟨nd, rfl⟩⟩; (try first | exact ⟨rfl, _, World.drewN_drewN _ _ _⟩ | exact ⟨rfl, _, Eq.trans (World.drewN_drewN _ _ _) (congrArg (World.drewN _) (Nat.add_assoc _ _ _))⟩))); try go_wp2_with (first | (go_at_call 24; (with_reducible refine (letterbaglaw28_at.calls kj59 _ _ t315 (rd t336 (rd t345 (ji64))) t353 _ ?side1 ?side2 A69.out).mono ?_); (case side1 => repeat (first | exact (Kd.R_reads' HO_7.out).2.2 | (with_reducible refine Kd.C_alloc ?_ _) | (with_reducible refine Kd.C_drewN ?_ _) | (with_reducible refine Kd.C_drew ?_))); (case side2 => exact (Kd.R_reads' HO_7.out).2.1); rintro e w' ⟨rfl, ⟨nd, rfl⟩⟩; (try first | exact ⟨rfl, _, World.drewN_drewN _ _ _⟩ | exact ⟨rfl, _, Eq.trans (World.drewN_drewN _ _ _) (congrArg (World.drewN _) (Nat.add_assoc _ _ _))⟩); have p354 : 0 ≤ ((rd t345 x109_3) : Int) := of_decide_eq_true (by first | (with_reducible assumption) | assumption); have q354 : (rd t345 x109_3) < (t336.length : Int) := of_decide_eq_true (by first | (with_reducible assumption) | assumption); obtain ⟨ad354, e354, hx354_0⟩ := Kd.at_int (Kd.R_reads' HO_11.out).2.2 (rd t345 x109_3) p354 q354; obtain rfl : ad352 = ad354 := (by injection e354); replace p354 := eq_true p354; replace q354 := eq_true q354) | (go_at_call 24; (with_reducible refine (letterbaglaw28_at.calls kj59 _ _ t315 (rd t336 (rd t345 x109_3)) t355 _ ?side1 ?side2 A72.out).mono ?_); (case side1 => repeat (first | exact (Kd.R_reads' HO_7.out).2.2 | (with_reducible refine Kd.C_alloc ?_ _) | (with_reducible refine Kd.C_drewN ?_ _) | (with_reducible refine Kd.C_drew ?_))); (case side2 => exact (Kd.R_reads' HO_7.out).2.1); rintro e w' ⟨rfl, ⟨nd, rfl⟩⟩; (try first | exact ⟨rfl, _, World.drewN_drewN _ _ _⟩ | exact ⟨rfl, _, Eq.trans (World.drewN_drewN _ _ _) (congrArg (World.drewN _) (Nat.add_assoc _ _ _))⟩))))
           go_ret
           exact ⟨by first | rfl | (simp [errW_none, errW_some] <;> rfl) | (simp only [← hji64]; first | rfl | (simp [errW_none, errW_some] <;> rfl)) | (simp [*, errW_none, errW_some] <;> rfl), by repeat (first | (with_reducible first | exact HB.out | apply below_alloc | apply pw_below_drewN | apply below_drew1 | refine below_set ?_ GE334.out | refine below_set ?_ GE349.out) | exact HB.out)⟩
          rw [if_neg c73] at H
          have c73b0 : decide (t355 < t353) = false := decide_eq_false c73
          clear c73
          by_cases c76 : t353 = t355
          rotate_left
          ·rw [if_neg c76] at H
           have c76b0 : (t353 == t355) = false := beq_eq_false_iff_ne.mpr c76
           have c76b1 : (t353 != t355) = true := bne_iff_ne.mpr c76
           have H' := Aside0.mk H
           clear H; have hnb82 := NB349_334.out; have hnc82 := NB334_349.out
           have hcz83_0 : wc.cell? ⟨gb349, 0, none⟩ = some (.slice Ao40 t339.length co40) := (blk_cell BK349.out 0).trans rfl
           have hcz83_1 : wc.cell? ⟨gb349, 1, none⟩ = some (.slice Ao43 t342.length co43) := (blk_cell BK349.out 1).trans rfl
           have hcz83_2 : wc.cell? ⟨gb349, 2, none⟩ = some (.slice (some ad350) t345.length co44) := (blk_cell BK349.out 2).trans rfl
           have hfz83_0 := blk_frozen BK349.out 0
           have hfz83_1 := blk_frozen BK349.out 1
           have hfz83_2 := blk_frozen BK349.out 2
           have p351 : 0 ≤ ((ji64) : Int) := of_decide_eq_true (by first | (with_reducible assumption) | assumption)
           have q351 : (ji64) < (t345.length : Int) := of_decide_eq_true (by first | (with_reducible assumption) | assumption)
           obtain ⟨ad351, e351, hx351_0⟩ := Kd.at_int (Kd.R_reads' HO_350002.out).2.2 (ji64) p351 q351
           obtain rfl : ad350 = ad351 := (by injection e351)
           replace p351 := eq_true p351
           replace q351 := eq_true q351
           have p352 : 0 ≤ ((rd t345 (ji64)) : Int) := of_decide_eq_true (by first | (with_reducible assumption) | assumption)
           have q352 : (rd t345 (ji64)) < (t336.length : Int) := of_decide_eq_true (by first | (with_reducible assumption) | assumption)
           obtain ⟨ad352, e352, hx352_0⟩ := Kd.at_int (Kd.R_reads' HO_11.out).2.2 (rd t345 (ji64)) p352 q352
           cases e352
           replace p352 := eq_true p352
           replace q352 := eq_true q352
           go_wp2_with (first | (go_at_call 24; (with_reducible refine (letterbaglaw28_at.calls kj59 _ _ t315 (rd t336 (rd t345 (ji64))) t353 _ ?side1 ?side2 A69.out).mono ?_); (case side1 => repeat (first | exact (Kd.R_reads' HO_7.out).2.2 | (with_reducible refine Kd.C_alloc ?_ _) | (with_reducible refine Kd.C_drewN ?_ _) | (with_reducible refine Kd.C_drew ?_))); (case side2 => exact (Kd.R_reads' HO_7.out).2.1); rintro e w' ⟨rfl, ⟨nd, rfl⟩⟩; (try first | exact ⟨rfl, _, World.drewN_drewN _ _ _⟩ | exact ⟨rfl, _, Eq.trans (World.drewN_drewN _ _ _) (congrArg (World.drewN _) (Nat.add_assoc _ _ _))⟩); have p354 : 0 ≤ ((rd t345 x109_3) : Int) := of_decide_eq_true (by first | (with_reducible assumption) | assumption); have q354 : (rd t345 x109_3) < (t336.length : Int) := of_decide_eq_true (by first | (with_reducible assumption) | assumption); obtain ⟨ad354, e354, hx354_0⟩ := Kd.at_int (Kd.R_reads' HO_11.out).2.2 (rd t345 x109_3) p354 q354; obtain rfl : ad352 = ad354 := (by injection e354); replace p354 := eq_true p354; replace q354 := eq_true q354) | (go_at_call 24; (with_reducible refine (letterbaglaw28_at.calls kj59 _ _ t315 (rd t336 (rd t345 x109_3)) t355 _ ?side1 ?side2 A72.out).mono ?_); (case side1 => repeat (first | exact (Kd.R_reads' HO_7.out).2.2 | (with_reducible refine Kd.C_alloc ?_ _) | (with_reducible refine Kd.C_drewN ?_ _) | (with_reducible refine Kd.C_drew ?_))); (case side2 => exact (Kd.R_reads' HO_7.out).2.1); rintro e w' ⟨rfl, ⟨nd, rfl⟩⟩; (try first | exact ⟨rfl, _, World.drewN_drewN _ _ _⟩ | exact ⟨rfl, _, Eq.trans (World.drewN_drewN _ _ _) (congrArg (World.drewN _) (Nat.add_assoc _ _ _))⟩)))
           repeat (go_quiet (first | (go_at_call 24; (with_reducible refine (letterbaglaw28_at.calls kj59 _ _ t315 (rd t336 (rd t345 (ji64))) t353 _ ?side1 ?side2 A69.out).mono ?_); (case side1 => repeat (first | exact (Kd.R_reads' HO_7.out).2.2 | (with_reducible refine Kd.C_alloc ?_ _) | (with_reducible refine Kd.C_drewN ?_ _) | (with_reducible refine Kd.C_drew ?_))); (case side2 => exact (Kd.R_reads' HO_7.out).2.1); rintro e w' ⟨rfl, ⟨nd, rfl⟩⟩; (try first | exact ⟨rfl, _, World.drewN_drewN _ _ _⟩ | exact ⟨rfl, _, Eq.trans (World.drewN_drewN _ _ _) (congrArg (World.drewN _) (Nat.add_assoc _ _ _))⟩); have p354 : 0 ≤ ((rd t345 x109_3) : Int) := of_decide_eq_true (by first | (with_reducible assumption) | assumption); have q354 : (rd t345 x109_3) < (t336.length : Int) := of_decide_eq_true (by first | (with_reducible assumption) | assumption); obtain ⟨ad354, e354, hx354_0⟩ := Kd.at_int (Kd.R_reads' HO_11.out).2.2 (rd t345 x109_3) p354 q354; obtain rfl : ad352 = ad354 := (by injection e354); replace p354 := eq_true p354; replace q354 := eq_true q354) | (go_at_call 24; (with_reducible refine (letterbaglaw28_at.calls kj59 _ _ t315 (rd t336 (rd t345 x109_3)) t355 _ ?side1 ?side2 A72.out).mono ?_); (case side1 => repeat (first | exact (Kd.R_reads' HO_7.out).2.2 | (with_reducible refine Kd.C_alloc ?_ _) | (with_reducible refine Kd.C_drewN ?_ _) | (with_reducible refine Kd.C_drew ?_))); (case side2 => exact (Kd.R_reads' HO_7.out).2.1); rintro e w' ⟨rfl, ⟨nd, rfl⟩⟩; (try first | exact ⟨rfl, _, World.drewN_drewN _ _ _⟩ | exact ⟨rfl, _, Eq.trans (World.drewN_drewN _ _ _) (congrArg (World.drewN _) (Nat.add_assoc _ _ _))⟩))); try go_wp2_with (first | (go_at_call 24; (with_reducible refine (letterbaglaw28_at.calls kj59 _ _ t315 (rd t336 (rd t345 (ji64))) t353 _ ?side1 ?side2 A69.out).mono ?_); (case side1 => repeat (first | exact (Kd.R_reads' HO_7.out).2.2 | (with_reducible refine Kd.C_alloc ?_ _) | (with_reducible refine Kd.C_drewN ?_ _) | (with_reducible refine Kd.C_drew ?_))); (case side2 => exact (Kd.R_reads' HO_7.out).2.1); rintro e w' ⟨rfl, ⟨nd, rfl⟩⟩; (try first | exact ⟨rfl, _, World.drewN_drewN _ _ _⟩ | exact ⟨rfl, _, Eq.trans (World.drewN_drewN _ _ _) (congrArg (World.drewN _) (Nat.add_assoc _ _ _))⟩); have p354 : 0 ≤ ((rd t345 x109_3) : Int) := of_decide_eq_true (by first | (with_reducible assumption) | assumption); have q354 : (rd t345 x109_3) < (t336.length : Int) := of_decide_eq_true (by first | (with_reducible assumption) | assumption); obtain ⟨ad354, e354, hx354_0⟩ := Kd.at_int (Kd.R_reads' HO_11.out).2.2 (rd t345 x109_3) p354 q354; obtain rfl : ad352 = ad354 := (by injection e354); replace p354 := eq_true p354; replace q354 := eq_true q354) | (go_at_call 24; (with_reducible refine (letterbaglaw28_at.calls kj59 _ _ t315 (rd t336 (rd t345 x109_3)) t355 _ ?side1 ?side2 A72.out).mono ?_); (case side1 => repeat (first | exact (Kd.R_reads' HO_7.out).2.2 | (with_reducible refine Kd.C_alloc ?_ _) | (with_reducible refine Kd.C_drewN ?_ _) | (with_reducible refine Kd.C_drew ?_))); (case side2 => exact (Kd.R_reads' HO_7.out).2.1); rintro e w' ⟨rfl, ⟨nd, rfl⟩⟩; (try first | exact ⟨rfl, _, World.drewN_drewN _ _ _⟩ | exact ⟨rfl, _, Eq.trans (World.drewN_drewN _ _ _) (congrArg (World.drewN _) (Nat.add_assoc _ _ _))⟩))))
           go_roundg kj59
           case measure => have := HJ9.out; have := HJ33.out; have := HK3.out; have := HJ59.out; omega
           case rel => exact ⟨(wrap64 (x109_3 + 1)), (by first | rfl | (simp; done) | (simp [*]; done)), H', ⟨by have := HJ9.out; have := HJ33.out; have := HK3.out; have := HJ59.out; omega⟩, ⟨by (with_reducible repeat (first | apply Kd.R_alloc | apply Kd.R_drewN | apply Kd.R_drew)); exact HO_7.out⟩, ⟨by (with_reducible repeat (first | apply Kd.R_alloc | apply Kd.R_drewN | apply Kd.R_drew)); exact HO_8.out⟩, ⟨by (with_reducible repeat (first | apply Kd.R_alloc | apply Kd.R_drewN | apply Kd.R_drew)); exact HO_11.out⟩, ⟨by (with_reducible repeat (first | apply Kd.R_alloc | apply Kd.R_drewN | apply Kd.R_drew)); exact HO_107.out⟩, ⟨by (with_reducible repeat (first | apply Kd.R_alloc | apply Kd.R_drewN | apply Kd.R_drew)); exact HO_335000.out⟩, ⟨by (with_reducible repeat (first | apply Kd.R_alloc | apply Kd.R_drewN | apply Kd.R_drew)); exact HO_335001.out⟩, ⟨by (with_reducible repeat (first | apply Kd.R_alloc | apply Kd.R_drewN | apply Kd.R_drew)); exact HO_335002.out⟩, ⟨by (with_reducible repeat (first | apply Kd.R_alloc | apply Kd.R_drewN | apply Kd.R_drew)); exact HO_335003.out⟩, ⟨by (with_reducible repeat (first | apply Kd.S_alloc | apply Kd.S_drewN | apply Kd.S_drew)); exact HO_350000.out⟩, ⟨by (with_reducible repeat (first | apply Kd.S_alloc | apply Kd.S_drewN | apply Kd.S_drew)); exact HO_350001.out⟩, ⟨by (with_reducible repeat (first | apply Kd.R_alloc | apply Kd.R_drewN | apply Kd.R_drew)); exact HO_350002.out⟩, ⟨by (with_reducible repeat (first | refine blk_drewN ?_ _ | refine blk_drew ?_ | refine blk_alloc ?_ _)); exact BK334.out⟩, ⟨by (with_reducible repeat (first | refine blk_drewN ?_ _ | refine blk_drew ?_ | refine blk_alloc ?_ _)); exact BK349.out⟩, ⟨by repeat (first | (with_reducible first | exact HB.out | apply below_alloc | apply pw_below_drewN | apply below_drew1 | refine below_set ?_ GE334.out | refine below_set ?_ GE349.out) | exact HB.out)⟩⟩
          rw [if_pos c76] at H
          have c76b0 : (t353 == t355) = true := beq_iff_eq.mpr c76
          have c76b1 : (t353 != t355) = false := bne_eq_false_iff_eq.mpr c76
          clear c76
          by_cases c77 : (rd t345 (ji64)) ≥ (rd t345 x109_3)
          ·rw [if_pos c77] at H
           have c77b0 : decide ((rd t345 x109_3) ≤ (rd t345 (ji64))) = true := decide_eq_true c77
           clear c77
           obtain rfl := Option.some.inj H
           have hnb78 := NB349_334.out; have hnc78 := NB334_349.out
           have hcz79_0 : wc.cell? ⟨gb349, 0, none⟩ = some (.slice Ao40 t339.length co40) := (blk_cell BK349.out 0).trans rfl
           have hcz79_1 : wc.cell? ⟨gb349, 1, none⟩ = some (.slice Ao43 t342.length co43) := (blk_cell BK349.out 1).trans rfl
           have hcz79_2 : wc.cell? ⟨gb349, 2, none⟩ = some (.slice (some ad350) t345.length co44) := (blk_cell BK349.out 2).trans rfl
           have hfz79_0 := blk_frozen BK349.out 0
           have hfz79_1 := blk_frozen BK349.out 1
           have hfz79_2 := blk_frozen BK349.out 2
           have p351 : 0 ≤ ((ji64) : Int) := of_decide_eq_true (by first | (with_reducible assumption) | assumption)
           have q351 : (ji64) < (t345.length : Int) := of_decide_eq_true (by first | (with_reducible assumption) | assumption)
           obtain ⟨ad351, e351, hx351_0⟩ := Kd.at_int (Kd.R_reads' HO_350002.out).2.2 (ji64) p351 q351
           obtain rfl : ad350 = ad351 := (by injection e351)
           replace p351 := eq_true p351
           replace q351 := eq_true q351
           have p352 : 0 ≤ ((rd t345 (ji64)) : Int) := of_decide_eq_true (by first | (with_reducible assumption) | assumption)
           have q352 : (rd t345 (ji64)) < (t336.length : Int) := of_decide_eq_true (by first | (with_reducible assumption) | assumption)
           obtain ⟨ad352, e352, hx352_0⟩ := Kd.at_int (Kd.R_reads' HO_11.out).2.2 (rd t345 (ji64)) p352 q352
           cases e352
           replace p352 := eq_true p352
           replace q352 := eq_true q352
           go_wp2_with (first | (go_at_call 24; (with_reducible refine (letterbaglaw28_at.calls kj59 _ _ t315 (rd t336 (rd t345 (ji64))) t353 _ ?side1 ?side2 A69.out).mono ?_); (case side1 => repeat (first | exact (Kd.R_reads' HO_7.out).2.2 | (with_reducible refine Kd.C_alloc ?_ _) | (with_reducible refine Kd.C_drewN ?_ _) | (with_reducible refine Kd.C_drew ?_))); (case side2 => exact (Kd.R_reads' HO_7.out).2.1); rintro e w' ⟨rfl, ⟨nd, rfl⟩⟩; (try first | exact ⟨rfl, _, World.drewN_drewN _ _ _⟩ | exact ⟨rfl, _, Eq.trans (World.drewN_drewN _ _ _) (congrArg (World.drewN _) (Nat.add_assoc _ _ _))⟩); have p354 : 0 ≤ ((rd t345 x109_3) : Int) := of_decide_eq_true (by first | (with_reducible assumption) | assumption); have q354 : (rd t345 x109_3) < (t336.length : Int) := of_decide_eq_true (by first | (with_reducible assumption) | assumption); obtain ⟨ad354, e354, hx354_0⟩ := Kd.at_int (Kd.R_reads' HO_11.out).2.2 (rd t345 x109_3) p354 q354; obtain rfl : ad352 = ad354 := (by injection e354); replace p354 := eq_true p354; replace q354 := eq_true q354) | (go_at_call 24; (with_reducible refine (letterbaglaw28_at.calls kj59 _ _ t315 (rd t336 (rd t345 x109_3)) t355 _ ?side1 ?side2 A72.out).mono ?_); (case side1 => repeat (first | exact (Kd.R_reads' HO_7.out).2.2 | (with_reducible refine Kd.C_alloc ?_ _) | (with_reducible refine Kd.C_drewN ?_ _) | (with_reducible refine Kd.C_drew ?_))); (case side2 => exact (Kd.R_reads' HO_7.out).2.1); rintro e w' ⟨rfl, ⟨nd, rfl⟩⟩; (try first | exact ⟨rfl, _, World.drewN_drewN _ _ _⟩ | exact ⟨rfl, _, Eq.trans (World.drewN_drewN _ _ _) (congrArg (World.drewN _) (Nat.add_assoc _ _ _))⟩); have p356 : 0 ≤ ((ji64) : Int) := of_decide_eq_true (by first | (with_reducible assumption) | assumption); have q356 : (ji64) < (t345.length : Int) := of_decide_eq_true (by first | (with_reducible assumption) | assumption); obtain ⟨ad356, e356, hx356_0⟩ := Kd.at_int (Kd.R_reads' HO_350002.out).2.2 (ji64) p356 q356; obtain rfl : ad350 = ad356 := (by injection e356); replace p356 := eq_true p356; replace q356 := eq_true q356))
           repeat (go_quiet (first | (go_at_call 24; (with_reducible refine (letterbaglaw28_at.calls kj59 _ _ t315 (rd t336 (rd t345 (ji64))) t353 _ ?side1 ?side2 A69.out).mono ?_); (case side1 => repeat (first | exact (Kd.R_reads' HO_7.out).2.2 | (with_reducible refine Kd.C_alloc ?_ _) | (with_reducible refine Kd.C_drewN ?_ _) | (with_reducible refine Kd.C_drew ?_))); (case side2 => exact (Kd.R_reads' HO_7.out).2.1); rintro e w' ⟨rfl, ⟨nd, rfl⟩⟩; (try first | exact ⟨rfl, _, World.drewN_drewN _ _ _⟩ | exact ⟨rfl, _, Eq.trans (World.drewN_drewN _ _ _) (congrArg (World.drewN _) (Nat.add_assoc _ _ _))⟩); have p354 : 0 ≤ ((rd t345 x109_3) : Int) := of_decide_eq_true (by first | (with_reducible assumption) | assumption); have q354 : (rd t345 x109_3) < (t336.length : Int) := of_decide_eq_true (by first | (with_reducible assumption) | assumption); obtain ⟨ad354, e354, hx354_0⟩ := Kd.at_int (Kd.R_reads' HO_11.out).2.2 (rd t345 x109_3) p354 q354; obtain rfl : ad352 = ad354 := (by injection e354); replace p354 := eq_true p354; replace q354 := eq_true q354) | (go_at_call 24; (with_reducible refine (letterbaglaw28_at.calls kj59 _ _ t315 (rd t336 (rd t345 x109_3)) t355 _ ?side1 ?side2 A72.out).mono ?_); (case side1 => repeat (first | exact (Kd.R_reads' HO_7.out).2.2 | (with_reducible refine Kd.C_alloc ?_ _) | (with_reducible refine Kd.C_drewN ?_ _) | (with_reducible refine Kd.C_drew ?_))); (case side2 => exact (Kd.R_reads' HO_7.out).2.1); rintro e w' ⟨rfl, ⟨nd, rfl⟩⟩; (try first | exact ⟨rfl, _, World.drewN_drewN _ _ _⟩ | exact ⟨rfl, _, Eq.trans (World.drewN_drewN _ _ _) (congrArg (World.drewN _) (Nat.add_assoc _ _ _))⟩); have p356 : 0 ≤ ((ji64) : Int) := of_decide_eq_true (by first | (with_reducible assumption) | assumption); have q356 : (ji64) < (t345.length : Int) := of_decide_eq_true (by first | (with_reducible assumption) | assumption); obtain ⟨ad356, e356, hx356_0⟩ := Kd.at_int (Kd.R_reads' HO_350002.out).2.2 (ji64) p356 q356; obtain rfl : ad350 = ad356 := (by injection e356); replace p356 := eq_true p356; replace q356 := eq_true q356)); try go_wp2_with (first | (go_at_call 24; (with_reducible refine (letterbaglaw28_at.calls kj59 _ _ t315 (rd t336 (rd t345 (ji64))) t353 _ ?side1 ?side2 A69.out).mono ?_); (case side1 => repeat (first | exact (Kd.R_reads' HO_7.out).2.2 | (with_reducible refine Kd.C_alloc ?_ _) | (with_reducible refine Kd.C_drewN ?_ _) | (with_reducible refine Kd.C_drew ?_))); (case side2 => exact (Kd.R_reads' HO_7.out).2.1); rintro e w' ⟨rfl, ⟨nd, rfl⟩⟩; (try first | exact ⟨rfl, _, World.drewN_drewN _ _ _⟩ | exact ⟨rfl, _, Eq.trans (World.drewN_drewN _ _ _) (congrArg (World.drewN _) (Nat.add_assoc _ _ _))⟩); have p354 : 0 ≤ ((rd t345 x109_3) : Int) := of_decide_eq_true (by first | (with_reducible assumption) | assumption); have q354 : (rd t345 x109_3) < (t336.length : Int) := of_decide_eq_true (by first | (with_reducible assumption) | assumption); obtain ⟨ad354, e354, hx354_0⟩ := Kd.at_int (Kd.R_reads' HO_11.out).2.2 (rd t345 x109_3) p354 q354; obtain rfl : ad352 = ad354 := (by injection e354); replace p354 := eq_true p354; replace q354 := eq_true q354) | (go_at_call 24; (with_reducible refine (letterbaglaw28_at.calls kj59 _ _ t315 (rd t336 (rd t345 x109_3)) t355 _ ?side1 ?side2 A72.out).mono ?_); (case side1 => repeat (first | exact (Kd.R_reads' HO_7.out).2.2 | (with_reducible refine Kd.C_alloc ?_ _) | (with_reducible refine Kd.C_drewN ?_ _) | (with_reducible refine Kd.C_drew ?_))); (case side2 => exact (Kd.R_reads' HO_7.out).2.1); rintro e w' ⟨rfl, ⟨nd, rfl⟩⟩; (try first | exact ⟨rfl, _, World.drewN_drewN _ _ _⟩ | exact ⟨rfl, _, Eq.trans (World.drewN_drewN _ _ _) (congrArg (World.drewN _) (Nat.add_assoc _ _ _))⟩); have p356 : 0 ≤ ((ji64) : Int) := of_decide_eq_true (by first | (with_reducible assumption) | assumption); have q356 : (ji64) < (t345.length : Int) := of_decide_eq_true (by first | (with_reducible assumption) | assumption); obtain ⟨ad356, e356, hx356_0⟩ := Kd.at_int (Kd.R_reads' HO_350002.out).2.2 (ji64) p356 q356; obtain rfl : ad350 = ad356 := (by injection e356); replace p356 := eq_true p356; replace q356 := eq_true q356)))
           go_ret
           exact ⟨by first | rfl | (simp [errW_none, errW_some] <;> rfl) | (simp only [← hji64]; first | rfl | (simp [errW_none, errW_some] <;> rfl)) | (simp [*, errW_none, errW_some] <;> rfl), by repeat (first | (with_reducible first | exact HB.out | apply below_alloc | apply pw_below_drewN | apply below_drew1 | refine below_set ?_ GE334.out | refine below_set ?_ GE349.out) | exact HB.out)⟩
          rw [if_neg c77] at H
          have c77b0 : decide ((rd t345 x109_3) ≤ (rd t345 (ji64))) = false := decide_eq_false c77
          clear c77
          have H' := Aside0.mk H
          clear H; have hnb80 := NB349_334.out; have hnc80 := NB334_349.out
          have hcz81_0 : wc.cell? ⟨gb349, 0, none⟩ = some (.slice Ao40 t339.length co40) := (blk_cell BK349.out 0).trans rfl
          have hcz81_1 : wc.cell? ⟨gb349, 1, none⟩ = some (.slice Ao43 t342.length co43) := (blk_cell BK349.out 1).trans rfl
          have hcz81_2 : wc.cell? ⟨gb349, 2, none⟩ = some (.slice (some ad350) t345.length co44) := (blk_cell BK349.out 2).trans rfl
          have hfz81_0 := blk_frozen BK349.out 0
          have hfz81_1 := blk_frozen BK349.out 1
          have hfz81_2 := blk_frozen BK349.out 2
          have p351 : 0 ≤ ((ji64) : Int) := of_decide_eq_true (by first | (with_reducible assumption) | assumption)
          have q351 : (ji64) < (t345.length : Int) := of_decide_eq_true (by first | (with_reducible assumption) | assumption)
          obtain ⟨ad351, e351, hx351_0⟩ := Kd.at_int (Kd.R_reads' HO_350002.out).2.2 (ji64) p351 q351
          obtain rfl : ad350 = ad351 := (by injection e351)
          replace p351 := eq_true p351
          replace q351 := eq_true q351
          have p352 : 0 ≤ ((rd t345 (ji64)) : Int) := of_decide_eq_true (by first | (with_reducible assumption) | assumption)
          have q352 : (rd t345 (ji64)) < (t336.length : Int) := of_decide_eq_true (by first | (with_reducible assumption) | assumption)
          obtain ⟨ad352, e352, hx352_0⟩ := Kd.at_int (Kd.R_reads' HO_11.out).2.2 (rd t345 (ji64)) p352 q352
          cases e352
          replace p352 := eq_true p352
          replace q352 := eq_true q352
          go_wp2_with (first | (go_at_call 24; (with_reducible refine (letterbaglaw28_at.calls kj59 _ _ t315 (rd t336 (rd t345 (ji64))) t353 _ ?side1 ?side2 A69.out).mono ?_); (case side1 => repeat (first | exact (Kd.R_reads' HO_7.out).2.2 | (with_reducible refine Kd.C_alloc ?_ _) | (with_reducible refine Kd.C_drewN ?_ _) | (with_reducible refine Kd.C_drew ?_))); (case side2 => exact (Kd.R_reads' HO_7.out).2.1); rintro e w' ⟨rfl, ⟨nd, rfl⟩⟩; (try first | exact ⟨rfl, _, World.drewN_drewN _ _ _⟩ | exact ⟨rfl, _, Eq.trans (World.drewN_drewN _ _ _) (congrArg (World.drewN _) (Nat.add_assoc _ _ _))⟩); have p354 : 0 ≤ ((rd t345 x109_3) : Int) := of_decide_eq_true (by first | (with_reducible assumption) | assumption); have q354 : (rd t345 x109_3) < (t336.length : Int) := of_decide_eq_true (by first | (with_reducible assumption) | assumption); obtain ⟨ad354, e354, hx354_0⟩ := Kd.at_int (Kd.R_reads' HO_11.out).2.2 (rd t345 x109_3) p354 q354; obtain rfl : ad352 = ad354 := (by injection e354); replace p354 := eq_true p354; replace q354 := eq_true q354) | (go_at_call 24; (with_reducible refine (letterbaglaw28_at.calls kj59 _ _ t315 (rd t336 (rd t345 x109_3)) t355 _ ?side1 ?side2 A72.out).mono ?_); (case side1 => repeat (first | exact (Kd.R_reads' HO_7.out).2.2 | (with_reducible refine Kd.C_alloc ?_ _) | (with_reducible refine Kd.C_drewN ?_ _) | (with_reducible refine Kd.C_drew ?_))); (case side2 => exact (Kd.R_reads' HO_7.out).2.1); rintro e w' ⟨rfl, ⟨nd, rfl⟩⟩; (try first | exact ⟨rfl, _, World.drewN_drewN _ _ _⟩ | exact ⟨rfl, _, Eq.trans (World.drewN_drewN _ _ _) (congrArg (World.drewN _) (Nat.add_assoc _ _ _))⟩); have p356 : 0 ≤ ((ji64) : Int) := of_decide_eq_true (by first | (with_reducible assumption) | assumption); have q356 : (ji64) < (t345.length : Int) := of_decide_eq_true (by first | (with_reducible assumption) | assumption); obtain ⟨ad356, e356, hx356_0⟩ := Kd.at_int (Kd.R_reads' HO_350002.out).2.2 (ji64) p356 q356; obtain rfl : ad350 = ad356 := (by injection e356); replace p356 := eq_true p356; replace q356 := eq_true q356))
          repeat (go_quiet (first | (go_at_call 24; (with_reducible refine (letterbaglaw28_at.calls kj59 _ _ t315 (rd t336 (rd t345 (ji64))) t353 _ ?side1 ?side2 A69.out).mono ?_); (case side1 => repeat (first | exact (Kd.R_reads' HO_7.out).2.2 | (with_reducible refine Kd.C_alloc ?_ _) | (with_reducible refine Kd.C_drewN ?_ _) | (with_reducible refine Kd.C_drew ?_))); (case side2 => exact (Kd.R_reads' HO_7.out).2.1); rintro e w' ⟨rfl, ⟨nd, rfl⟩⟩; (try first | exact ⟨rfl, _, World.drewN_drewN _ _ _⟩ | exact ⟨rfl, _, Eq.trans (World.drewN_drewN _ _ _) (congrArg (World.drewN _) (Nat.add_assoc _ _ _))⟩); have p354 : 0 ≤ ((rd t345 x109_3) : Int) := of_decide_eq_true (by first | (with_reducible assumption) | assumption); have q354 : (rd t345 x109_3) < (t336.length : Int) := of_decide_eq_true (by first | (with_reducible assumption) | assumption); obtain ⟨ad354, e354, hx354_0⟩ := Kd.at_int (Kd.R_reads' HO_11.out).2.2 (rd t345 x109_3) p354 q354; obtain rfl : ad352 = ad354 := (by injection e354); replace p354 := eq_true p354; replace q354 := eq_true q354) | (go_at_call 24; (with_reducible refine (letterbaglaw28_at.calls kj59 _ _ t315 (rd t336 (rd t345 x109_3)) t355 _ ?side1 ?side2 A72.out).mono ?_); (case side1 => repeat (first | exact (Kd.R_reads' HO_7.out).2.2 | (with_reducible refine Kd.C_alloc ?_ _) | (with_reducible refine Kd.C_drewN ?_ _) | (with_reducible refine Kd.C_drew ?_))); (case side2 => exact (Kd.R_reads' HO_7.out).2.1); rintro e w' ⟨rfl, ⟨nd, rfl⟩⟩; (try first | exact ⟨rfl, _, World.drewN_drewN _ _ _⟩ | exact ⟨rfl, _, Eq.trans (World.drewN_drewN _ _ _) (congrArg (World.drewN _) (Nat.add_assoc _ _ _))⟩); have p356 : 0 ≤ ((ji64) : Int) := of_decide_eq_true (by first | (with_reducible assumption) | assumption); have q356 : (ji64) < (t345.length : Int) := of_decide_eq_true (by first | (with_reducible assumption) | assumption); obtain ⟨ad356, e356, hx356_0⟩ := Kd.at_int (Kd.R_reads' HO_350002.out).2.2 (ji64) p356 q356; obtain rfl : ad350 = ad356 := (by injection e356); replace p356 := eq_true p356; replace q356 := eq_true q356)); try go_wp2_with (first | (go_at_call 24; (with_reducible refine (letterbaglaw28_at.calls kj59 _ _ t315 (rd t336 (rd t345 (ji64))) t353 _ ?side1 ?side2 A69.out).mono ?_); (case side1 => repeat (first | exact (Kd.R_reads' HO_7.out).2.2 | (with_reducible refine Kd.C_alloc ?_ _) | (with_reducible refine Kd.C_drewN ?_ _) | (with_reducible refine Kd.C_drew ?_))); (case side2 => exact (Kd.R_reads' HO_7.out).2.1); rintro e w' ⟨rfl, ⟨nd, rfl⟩⟩; (try first | exact ⟨rfl, _, World.drewN_drewN _ _ _⟩ | exact ⟨rfl, _, Eq.trans (World.drewN_drewN _ _ _) (congrArg (World.drewN _) (Nat.add_assoc _ _ _))⟩); have p354 : 0 ≤ ((rd t345 x109_3) : Int) := of_decide_eq_true (by first | (with_reducible assumption) | assumption); have q354 : (rd t345 x109_3) < (t336.length : Int) := of_decide_eq_true (by first | (with_reducible assumption) | assumption); obtain ⟨ad354, e354, hx354_0⟩ := Kd.at_int (Kd.R_reads' HO_11.out).2.2 (rd t345 x109_3) p354 q354; obtain rfl : ad352 = ad354 := (by injection e354); replace p354 := eq_true p354; replace q354 := eq_true q354) | (go_at_call 24; (with_reducible refine (letterbaglaw28_at.calls kj59 _ _ t315 (rd t336 (rd t345 x109_3)) t355 _ ?side1 ?side2 A72.out).mono ?_); (case side1 => repeat (first | exact (Kd.R_reads' HO_7.out).2.2 | (with_reducible refine Kd.C_alloc ?_ _) | (with_reducible refine Kd.C_drewN ?_ _) | (with_reducible refine Kd.C_drew ?_))); (case side2 => exact (Kd.R_reads' HO_7.out).2.1); rintro e w' ⟨rfl, ⟨nd, rfl⟩⟩; (try first | exact ⟨rfl, _, World.drewN_drewN _ _ _⟩ | exact ⟨rfl, _, Eq.trans (World.drewN_drewN _ _ _) (congrArg (World.drewN _) (Nat.add_assoc _ _ _))⟩); have p356 : 0 ≤ ((ji64) : Int) := of_decide_eq_true (by first | (with_reducible assumption) | assumption); have q356 : (ji64) < (t345.length : Int) := of_decide_eq_true (by first | (with_reducible assumption) | assumption); obtain ⟨ad356, e356, hx356_0⟩ := Kd.at_int (Kd.R_reads' HO_350002.out).2.2 (ji64) p356 q356; obtain rfl : ad350 = ad356 := (by injection e356); replace p356 := eq_true p356; replace q356 := eq_true q356)))
          go_roundg kj59
          case measure => have := HJ9.out; have := HJ33.out; have := HK3.out; have := HJ59.out; omega
          case rel => exact ⟨(wrap64 (x109_3 + 1)), (by first | rfl | (simp; done) | (simp [*]; done)), H', ⟨by have := HJ9.out; have := HJ33.out; have := HK3.out; have := HJ59.out; omega⟩, ⟨by (with_reducible repeat (first | apply Kd.R_alloc | apply Kd.R_drewN | apply Kd.R_drew)); exact HO_7.out⟩, ⟨by (with_reducible repeat (first | apply Kd.R_alloc | apply Kd.R_drewN | apply Kd.R_drew)); exact HO_8.out⟩, ⟨by (with_reducible repeat (first | apply Kd.R_alloc | apply Kd.R_drewN | apply Kd.R_drew)); exact HO_11.out⟩, ⟨by (with_reducible repeat (first | apply Kd.R_alloc | apply Kd.R_drewN | apply Kd.R_drew)); exact HO_107.out⟩, ⟨by (with_reducible repeat (first | apply Kd.R_alloc | apply Kd.R_drewN | apply Kd.R_drew)); exact HO_335000.out⟩, ⟨by (with_reducible repeat (first | apply Kd.R_alloc | apply Kd.R_drewN | apply Kd.R_drew)); exact HO_335001.out⟩, ⟨by (with_reducible repeat (first | apply Kd.R_alloc | apply Kd.R_drewN | apply Kd.R_drew)); exact HO_335002.out⟩, ⟨by (with_reducible repeat (first | apply Kd.R_alloc | apply Kd.R_drewN | apply Kd.R_drew)); exact HO_335003.out⟩, ⟨by (with_reducible repeat (first | apply Kd.S_alloc | apply Kd.S_drewN | apply Kd.S_drew)); exact HO_350000.out⟩, ⟨by (with_reducible repeat (first | apply Kd.S_alloc | apply Kd.S_drewN | apply Kd.S_drew)); exact HO_350001.out⟩, ⟨by (with_reducible repeat (first | apply Kd.R_alloc | apply Kd.R_drewN | apply Kd.R_drew)); exact HO_350002.out⟩, ⟨by (with_reducible repeat (first | refine blk_drewN ?_ _ | refine blk_drew ?_ | refine blk_alloc ?_ _)); exact BK334.out⟩, ⟨by (with_reducible repeat (first | refine blk_drewN ?_ _ | refine blk_drew ?_ | refine blk_alloc ?_ _)); exact BK349.out⟩, ⟨by repeat (first | (with_reducible first | exact HB.out | apply below_alloc | apply pw_below_drewN | apply below_drew1 | refine below_set ?_ GE334.out | refine below_set ?_ GE349.out) | exact HB.out)⟩⟩
       rw [if_neg c57] at H
       have c57b0 : decide (x109_3 < (t345.length : Int)) = false := decide_eq_false c57
       clear c57
       have H' := Aside0.mk H
       clear H
       go_wp2
       repeat (go_quiet (fail); try go_wp2)
       go_loopg [17, 18, 162] k3 (fun kq v17 v18 v162 w' => ∃ (x17_4 : Int) (x18_4 : Int) (x162_4 : Int), v17 = .int .i64 x17_4 ∧ v18 = .int .i64 x18_4 ∧ v162 = .int .i64 x162_4 ∧ Aside0 (letterbaglaw28_SequenceExact.l1 kq t318 t336 x17_4 x18_4 (t318.length : Int) x162_4 t321 t324 t327 t330 t339 t342 t345 = some r) ∧ Aside0 (kq ≤ k3) ∧ Aside0 (Kd.R (Kd.int .i64) 3 w' w.heap.size (fun k_ => some k_ ≠ ((.slice Ao37 t336.length co37) : Value).ownBlock ∧ some k_ ≠ ((.slice Ao18 t321.length co18) : Value).ownBlock ∧ some k_ ≠ ((.slice Ao21 t327.length co21) : Value).ownBlock ∧ some k_ ≠ ((.slice Ao22 t330.length co22) : Value).ownBlock ∧ some k_ ≠ ((.slice Ao44 t345.length co44) : Value).ownBlock) (.slice Ao15 t318.length co15) t318) ∧ Aside0 (Kd.R (Kd.int .i64) 3 w' w.heap.size (fun k_ => some k_ ≠ ((.slice Ao15 t318.length co15) : Value).ownBlock ∧ some k_ ≠ ((.slice Ao18 t321.length co18) : Value).ownBlock ∧ some k_ ≠ ((.slice Ao21 t327.length co21) : Value).ownBlock ∧ some k_ ≠ ((.slice Ao22 t330.length co22) : Value).ownBlock ∧ some k_ ≠ ((.slice Ao44 t345.length co44) : Value).ownBlock) (.slice Ao37 t336.length co37) t336) ∧ Aside0 (Kd.R (Kd.int .i64) 3 w' w.heap.size (fun k_ => some k_ ≠ ((.slice Ao15 t318.length co15) : Value).ownBlock ∧ some k_ ≠ ((.slice Ao37 t336.length co37) : Value).ownBlock ∧ some k_ ≠ ((.slice Ao21 t327.length co21) : Value).ownBlock ∧ some k_ ≠ ((.slice Ao22 t330.length co22) : Value).ownBlock ∧ some k_ ≠ ((.slice Ao44 t345.length co44) : Value).ownBlock) (.slice Ao18 t321.length co18) t321) ∧ Aside0 (Kd.R k60 60 w' w.heap.size (fun _ => True) (.slice Ao20 t324.length co20) t324) ∧ Aside0 (Kd.R (Kd.int .i64) 3 w' w.heap.size (fun k_ => some k_ ≠ ((.slice Ao15 t318.length co15) : Value).ownBlock ∧ some k_ ≠ ((.slice Ao37 t336.length co37) : Value).ownBlock ∧ some k_ ≠ ((.slice Ao18 t321.length co18) : Value).ownBlock ∧ some k_ ≠ ((.slice Ao22 t330.length co22) : Value).ownBlock ∧ some k_ ≠ ((.slice Ao44 t345.length co44) : Value).ownBlock) (.slice Ao21 t327.length co21) t327) ∧ Aside0 (Kd.R (Kd.int .i64) 3 w' w.heap.size (fun k_ => some k_ ≠ ((.slice Ao15 t318.length co15) : Value).ownBlock ∧ some k_ ≠ ((.slice Ao37 t336.length co37) : Value).ownBlock ∧ some k_ ≠ ((.slice Ao18 t321.length co18) : Value).ownBlock ∧ some k_ ≠ ((.slice Ao21 t327.length co21) : Value).ownBlock ∧ some k_ ≠ ((.slice Ao44 t345.length co44) : Value).ownBlock) (.slice Ao22 t330.length co22) t330) ∧ Aside0 (Kd.S (Kd.slice 3 (Kd.int .i64)) 24 w' w.heap.size (fun k_ => some k_ ≠ ((.slice Ao15 t318.length co15) : Value).ownBlock ∧ some k_ ≠ ((.slice Ao37 t336.length co37) : Value).ownBlock ∧ some k_ ≠ ((.slice Ao18 t321.length co18) : Value).ownBlock ∧ some k_ ≠ ((.slice Ao21 t327.length co21) : Value).ownBlock ∧ some k_ ≠ ((.slice Ao22 t330.length co22) : Value).ownBlock ∧ some k_ ≠ ((.slice Ao43 t342.length co43) : Value).ownBlock ∧ some k_ ≠ ((.slice Ao44 t345.length co44) : Value).ownBlock) (.slice Ao40 t339.length co40) t339) ∧ Aside0 (Kd.S (Kd.slice 3 (Kd.int .i64)) 24 w' w.heap.size (fun k_ => some k_ ≠ ((.slice Ao15 t318.length co15) : Value).ownBlock ∧ some k_ ≠ ((.slice Ao37 t336.length co37) : Value).ownBlock ∧ some k_ ≠ ((.slice Ao18 t321.length co18) : Value).ownBlock ∧ some k_ ≠ ((.slice Ao21 t327.length co21) : Value).ownBlock ∧ some k_ ≠ ((.slice Ao22 t330.length co22) : Value).ownBlock ∧ some k_ ≠ ((.slice Ao40 t339.length co40) : Value).ownBlock ∧ some k_ ≠ ((.slice Ao44 t345.length co44) : Value).ownBlock) (.slice Ao43 t342.length co43) t342) ∧ Aside0 (Kd.R (Kd.int .i64) 3 w' w.heap.size (fun k_ => some k_ ≠ ((.slice Ao15 t318.length co15) : Value).ownBlock ∧ some k_ ≠ ((.slice Ao37 t336.length co37) : Value).ownBlock ∧ some k_ ≠ ((.slice Ao18 t321.length co18) : Value).ownBlock ∧ some k_ ≠ ((.slice Ao21 t327.length co21) : Value).ownBlock ∧ some k_ ≠ ((.slice Ao22 t330.length co22) : Value).ownBlock) (.slice Ao44 t345.length co44) t345) ∧ Aside0 (w'.heap[gb334]? = some (.cells #[(.slice Ao18 t321.length co18), (.slice Ao20 t324.length co20), (.slice Ao21 t327.length co21), (.slice Ao22 t330.length co22)] 38 (0, 0))) ∧ Aside0 (w'.heap[gb349]? = some (.cells #[(.slice Ao40 t339.length co40), (.slice Ao43 t342.length co43), (.slice Ao44 t345.length co44)] 50 (0, 0))) ∧ Aside0 (Below w.heap.size w w'))
       case atStart => exact ⟨(0), (0), (0), (by first | rfl | (simp; done) | (simp [*]; done)), (by first | rfl | (simp; done) | (simp [*]; done)), (by first | rfl | (simp; done) | (simp [*]; done)), H', ⟨Nat.le_refl _⟩, ⟨by (with_reducible repeat (first | apply Kd.R_alloc | apply Kd.R_drewN | apply Kd.R_drew)); exact Kd.R_mono HO_8.out (fun _ hk => ⟨hk.1, ⟨hk.2.2.1, ⟨hk.2.2.2.1, ⟨hk.2.2.2.2.1, hk.2.2.2.2.2⟩⟩⟩⟩)⟩, ⟨by (with_reducible repeat (first | apply Kd.R_alloc | apply Kd.R_drewN | apply Kd.R_drew)); exact Kd.R_mono HO_11.out (fun _ hk => ⟨hk.1, ⟨hk.2.2.1, ⟨hk.2.2.2.1, ⟨hk.2.2.2.2.1, hk.2.2.2.2.2⟩⟩⟩⟩)⟩, ⟨by (with_reducible repeat (first | apply Kd.R_alloc | apply Kd.R_drewN | apply Kd.R_drew)); exact Kd.R_mono HO_335000.out (fun _ hk => ⟨hk.1, ⟨hk.2.1, ⟨hk.2.2.2.1, ⟨hk.2.2.2.2.1, hk.2.2.2.2.2⟩⟩⟩⟩)⟩, ⟨by (with_reducible repeat (first | apply Kd.R_alloc | apply Kd.R_drewN | apply Kd.R_drew)); exact HO_335001.out⟩, ⟨by (with_reducible repeat (first | apply Kd.R_alloc | apply Kd.R_drewN | apply Kd.R_drew)); exact Kd.R_mono HO_335002.out (fun _ hk => ⟨hk.1, ⟨hk.2.1, ⟨hk.2.2.2.1, ⟨hk.2.2.2.2.1, hk.2.2.2.2.2⟩⟩⟩⟩)⟩, ⟨by (with_reducible repeat (first | apply Kd.R_alloc | apply Kd.R_drewN | apply Kd.R_drew)); exact Kd.R_mono HO_335003.out (fun _ hk => ⟨hk.1, ⟨hk.2.1, ⟨hk.2.2.2.1, ⟨hk.2.2.2.2.1, hk.2.2.2.2.2⟩⟩⟩⟩)⟩, ⟨by (with_reducible repeat (first | apply Kd.S_alloc | apply Kd.S_drewN | apply Kd.S_drew)); exact Kd.S_mono HO_350000.out (fun _ hk => ⟨hk.1, ⟨hk.2.1, ⟨hk.2.2.2.1, ⟨hk.2.2.2.2.1, ⟨hk.2.2.2.2.2.1, ⟨hk.2.2.2.2.2.2.1, hk.2.2.2.2.2.2.2⟩⟩⟩⟩⟩⟩)⟩, ⟨by (with_reducible repeat (first | apply Kd.S_alloc | apply Kd.S_drewN | apply Kd.S_drew)); exact Kd.S_mono HO_350001.out (fun _ hk => ⟨hk.1, ⟨hk.2.1, ⟨hk.2.2.2.1, ⟨hk.2.2.2.2.1, ⟨hk.2.2.2.2.2.1, ⟨hk.2.2.2.2.2.2.1, hk.2.2.2.2.2.2.2⟩⟩⟩⟩⟩⟩)⟩, ⟨by (with_reducible repeat (first | apply Kd.R_alloc | apply Kd.R_drewN | apply Kd.R_drew)); exact HO_350002.out⟩, ⟨by (with_reducible repeat (first | refine blk_drewN ?_ _ | refine blk_drew ?_ | refine blk_alloc ?_ _)); exact BK334.out⟩, ⟨by (with_reducible repeat (first | refine blk_drewN ?_ _ | refine blk_drew ?_ | refine blk_alloc ?_ _)); exact BK349.out⟩, ⟨by repeat (first | (with_reducible first | exact HB.out | apply below_alloc | apply pw_below_drewN | apply below_drew1 | refine below_set ?_ GE334.out | refine below_set ?_ GE349.out) | exact HB.out)⟩⟩
       case round => as_aux_lemma =>
        clear H'; (try clear c1); (try clear c2); (try clear p2); (try clear c3); (try clear p3); (try clear q3); (try clear hx3); (try clear c4); (try clear c5); (try clear c6); (try clear p6); (try clear c7); (try clear c8); (try clear c9); (try clear c9b0); (try clear c9b1); (try clear c23); (try clear c23b0); (try clear c23b1); (try clear c23b2); (try clear c24); (try clear c24b0); (try clear c24b1); (try clear c24b2); (try clear c25); (try clear c25b0); (try clear c25b1); (try clear c25b2); (try clear c31); (try clear p35); (try clear q35); (try clear hx35); (try clear c41); (try clear c45); (try clear c45b0); (try clear c45b1); (try clear c46); (try clear c46b0); (try clear c46b1); (try clear c46b2)
        (try clear c47); (try clear c47b0); (try clear c47b1); (try clear c47b2); (try clear c48); (try clear c50); (try clear c52); (try clear c54); (try clear c55); (try clear c57); (try clear c57b0); (try clear c58); (try clear c58b0); (try clear c59); (try clear c59b0); (try clear c61); (try clear c61b0); (try clear c62); (try clear c63); (try clear c63b0); (try clear c63b1); (try clear p64); (try clear c65); (try clear c65b0); (try clear c66); (try clear c66b0); (try clear c67); (try clear c67b0); (try clear c68); (try clear c68b0); (try clear c70); (try clear c70b0); (try clear c71); (try clear c71b0); (try clear c73); (try clear c73b0); (try clear c74); (try clear c76); (try clear c76b0)
        (try clear c76b1); (try clear c77); (try clear c77b0); (try clear c78); (try clear c80); (try clear c82); (try clear hcz19_0); (try clear hcz19_1); (try clear hcz19_2); (try clear hcz19_3); (try clear hcz27_0); (try clear hcz27_1); (try clear hcz27_2); (try clear hcz27_3); (try clear hcz28_0); (try clear hcz28_1); (try clear hcz28_2); (try clear hcz28_3); (try clear hcz29_0); (try clear hcz29_1); (try clear hcz29_2); (try clear hcz29_3); (try clear hcz30_0); (try clear hcz30_1); (try clear hcz30_2); (try clear hcz30_3); (try clear hcz36_0); (try clear hcz36_1); (try clear hcz36_2); (try clear hcz36_3); (try clear hcz42_0); (try clear hcz42_1); (try clear hcz42_2); (try clear hcz49_0)
        (try clear hcz49_1); (try clear hcz49_2); (try clear hcz51_0); (try clear hcz51_1); (try clear hcz51_2); (try clear hcz53_0); (try clear hcz53_1); (try clear hcz53_2); (try clear hcz56_0); (try clear hcz56_1); (try clear hcz56_2); (try clear hcz75_0); (try clear hcz75_1); (try clear hcz75_2); (try clear hcz79_0); (try clear hcz79_1); (try clear hcz79_2); (try clear hcz81_0); (try clear hcz81_1); (try clear hcz81_2); (try clear hcz83_0); (try clear hcz83_1); (try clear hcz83_2); (try clear hfz19_0); (try clear hfz19_1); (try clear hfz19_2); (try clear hfz19_3); (try clear hfz27_0); (try clear hfz27_1); (try clear hfz27_2); (try clear hfz27_3); (try clear hfz28_0); (try clear hfz28_1); (try clear hfz28_2)
        (try clear hfz28_3); (try clear hfz29_0); (try clear hfz29_1); (try clear hfz29_2); (try clear hfz29_3); (try clear hfz30_0); (try clear hfz30_1); (try clear hfz30_2); (try clear hfz30_3); (try clear hfz36_0); (try clear hfz36_1); (try clear hfz36_2); (try clear hfz36_3); (try clear hfz42_0); (try clear hfz42_1); (try clear hfz42_2); (try clear hfz49_0); (try clear hfz49_1); (try clear hfz49_2); (try clear hfz51_0); (try clear hfz51_1); (try clear hfz51_2); (try clear hfz53_0); (try clear hfz53_1); (try clear hfz53_2); (try clear hfz56_0); (try clear hfz56_1); (try clear hfz56_2); (try clear hfz75_0); (try clear hfz75_1); (try clear hfz75_2); (try clear hfz79_0); (try clear hfz79_1); (try clear hfz79_2)
        (try clear hfz81_0); (try clear hfz81_1); (try clear hfz81_2); (try clear hfz83_0); (try clear hfz83_1); (try clear hfz83_2); (try clear hx350_0); (try clear hx351_0); (try clear hx352_0); (try clear hx354_0); (try clear hx356_0); (try clear p2); (try clear p3); (try clear p35); (try clear p350); (try clear p351); (try clear p352); (try clear p354); (try clear p356); (try clear q3); (try clear q35); (try clear q350); (try clear q351); (try clear q352); (try clear q354); (try clear q356)
        obtain ⟨x17_4, x18_4, x162_4, rfl, rfl, rfl, HA, HK4, HO_8, HO_11, HO_335000, HO_335001, HO_335002, HO_335003, HO_350000, HO_350001, HO_350002, BK334, BK349, HB⟩ := hrel
        cases gk with
        | zero => exact absurd HA.out (by simp [letterbaglaw28_SequenceExact.l1])
        | succ k4 =>
         have H := HA.out; clear HA
         simp only [letterbaglaw28_SequenceExact.l1] at H
         by_cases c84 : x162_4 < (t318.length : Int)
         rotate_left
         ·rw [if_neg c84] at H
          have c84b0 : decide (x162_4 < (t318.length : Int)) = false := decide_eq_false c84
          clear c84
          by_cases c110 : x17_4 = (t336.length : Int)
          rotate_left
          ·rw [if_neg c110] at H
           have c110b0 : (x17_4 == (t336.length : Int)) = false := beq_eq_false_iff_ne.mpr c110
           have c110b1 : (x17_4 != (t336.length : Int)) = true := bne_iff_ne.mpr c110
           obtain rfl := Option.some.inj H
           go_wp2
           repeat (go_quiet (fail); try go_wp2)
           go_ret
           exact ⟨by first | rfl | (simp [errW_none, errW_some] <;> rfl) | (simp [*, errW_none, errW_some] <;> rfl), by repeat (first | (with_reducible first | exact HB.out | apply below_alloc | apply pw_below_drewN | apply below_drew1 | refine below_set ?_ GE334.out | refine below_set ?_ GE349.out) | exact HB.out)⟩
          rw [if_pos c110] at H
          have c110b0 : (x17_4 == (t336.length : Int)) = true := beq_iff_eq.mpr c110
          have c110b1 : (x17_4 != (t336.length : Int)) = false := bne_eq_false_iff_eq.mpr c110
          clear c110
          obtain rfl := Option.some.inj H
          go_wp2
          repeat (go_quiet (fail); try go_wp2)
          go_ret
          exact ⟨by first | rfl | (simp [errW_none, errW_some] <;> rfl) | (simp [*, errW_none, errW_some] <;> rfl), by repeat (first | (with_reducible first | exact HB.out | apply below_alloc | apply pw_below_drewN | apply below_drew1 | refine below_set ?_ GE334.out | refine below_set ?_ GE349.out) | exact HB.out)⟩
         rw [if_pos c84] at H
         have c84b0 : decide (x162_4 < (t318.length : Int)) = true := decide_eq_true c84
         clear c84
         by_cases c85 : 0 ≤ x162_4
         rotate_left
         ·rw [if_neg c85] at H
          exact absurd H (by simp)
         rw [if_pos c85] at H
         have c85b0 : decide (0 ≤ x162_4) = true := decide_eq_true c85
         clear c85
         by_cases c86 : x162_4 < (t339.length : Int)
         rotate_left
         ·rw [if_neg c86] at H
          exact absurd H (by simp)
         rw [if_pos c86] at H
         have c86b0 : decide (x162_4 < (t339.length : Int)) = true := decide_eq_true c86
         clear c86
         by_cases c87 : x162_4 < (t342.length : Int)
         rotate_left
         ·rw [if_neg c87] at H
          exact absurd H (by simp)
         rw [if_pos c87] at H
         have c87b0 : decide (x162_4 < (t342.length : Int)) = true := decide_eq_true c87
         clear c87
         by_cases c88 : x162_4 < (t327.length : Int)
         rotate_left
         ·rw [if_neg c88] at H
          exact absurd H (by simp)
         rw [if_pos c88] at H
         have c88b0 : decide (x162_4 < (t327.length : Int)) = true := decide_eq_true c88
         clear c88
         by_cases c89 : ((rd_L4 t339 x162_4).length : Int) > (rd t327 x162_4)
         ·rw [if_pos c89] at H
          have c89b0 : decide ((rd t327 x162_4) < ((rd_L4 t339 x162_4).length : Int)) = true := decide_eq_true c89
          clear c89
          obtain rfl := Option.some.inj H
          have hnb90 := NB349_334.out; have hnc90 := NB334_349.out
          have hcz91_0 : wr.cell? ⟨gb349, 0, none⟩ = some (.slice Ao40 t339.length co40) := (blk_cell BK349.out 0).trans rfl
          have hcz91_1 : wr.cell? ⟨gb349, 1, none⟩ = some (.slice Ao43 t342.length co43) := (blk_cell BK349.out 1).trans rfl
          have hcz91_2 : wr.cell? ⟨gb349, 2, none⟩ = some (.slice Ao44 t345.length co44) := (blk_cell BK349.out 2).trans rfl
          have hfz91_0 := blk_frozen BK349.out 0
          have hfz91_1 := blk_frozen BK349.out 1
          have hfz91_2 := blk_frozen BK349.out 2
          have p357 : 0 ≤ (x162_4 : Int) := of_decide_eq_true (by first | (with_reducible assumption) | assumption)
          have q357 : x162_4 < (t339.length : Int) := of_decide_eq_true (by first | (with_reducible assumption) | assumption)
          obtain ⟨ad357, A357_0, c357_0, e357, hx357_0, hl357_0, hi357_0⟩ := at_L4 (Kd.S_reads' HO_350000.out).2.2 x162_4 p357 q357
          cases e357
          obtain ⟨ce357, hce357, hMe357, hcc357⟩ := Kd.S_get HO_350000.out [] x162_4 p357 (by first | exact q357 | exact of_decide_eq_true (by first | (with_reducible assumption) | assumption) | (have e_ := (Kd.S_reads' HO_350000.out).1; omega))
          obtain ⟨ve357_0, rfl, ge357_0⟩ := hMe357
          have hv357_0 := hcc357 0 _ rfl
          rw [Nat.add_zero, show ((Kd.slice 3 (Kd.int .i64))).sz = 1 from rfl, Nat.mul_one] at hv357_0
          replace hv357_0 := Option.some.inj (hv357_0.symm.trans hx357_0)
          rw [hv357_0] at ge357_0
          have HL357_0 := Aside0.mk (show Kd.R (Kd.int .i64) 3 _ _ _ _ (rd_L4 t339 x162_4) from ge357_0)
          clear hv357_0 ge357_0; clear hcc357 hce357
          have HR357_0 := Aside0.mk hi357_0
          have HC357_0 := Aside0.mk hl357_0
          clear hi357_0 hl357_0
          replace p357 := eq_true p357
          replace q357 := eq_true q357
          have p358 : 0 ≤ (x162_4 : Int) := of_decide_eq_true (by first | (with_reducible assumption) | assumption)
          have q358 : x162_4 < (t342.length : Int) := of_decide_eq_true (by first | (with_reducible assumption) | assumption)
          obtain ⟨ad358, A358_0, c358_0, e358, hx358_0, hl358_0, hi358_0⟩ := at_L4 (Kd.S_reads' HO_350001.out).2.2 x162_4 p358 q358
          cases e358
          obtain ⟨ce358, hce358, hMe358, hcc358⟩ := Kd.S_get HO_350001.out [] x162_4 p358 (by first | exact q358 | exact of_decide_eq_true (by first | (with_reducible assumption) | assumption) | (have e_ := (Kd.S_reads' HO_350001.out).1; omega))
          obtain ⟨ve358_0, rfl, ge358_0⟩ := hMe358
          have hv358_0 := hcc358 0 _ rfl
          rw [Nat.add_zero, show ((Kd.slice 3 (Kd.int .i64))).sz = 1 from rfl, Nat.mul_one] at hv358_0
          replace hv358_0 := Option.some.inj (hv358_0.symm.trans hx358_0)
          rw [hv358_0] at ge358_0
          have HL358_0 := Aside0.mk (show Kd.R (Kd.int .i64) 3 _ _ _ _ (rd_L4 t342 x162_4) from ge358_0)
          clear hv358_0 ge358_0; clear hcc358 hce358
          have HR358_0 := Aside0.mk hi358_0
          have HC358_0 := Aside0.mk hl358_0
          clear hi358_0 hl358_0
          replace p358 := eq_true p358
          replace q358 := eq_true q358
          have p359 : 0 ≤ (x162_4 : Int) := of_decide_eq_true (by first | (with_reducible assumption) | assumption)
          have q359 : x162_4 < (t339.length : Int) := of_decide_eq_true (by first | (with_reducible assumption) | assumption)
          obtain ⟨ad359, A359_0, c359_0, e359, hx359_0, hl359_0, hi359_0⟩ := at_L4 (Kd.S_reads' HO_350000.out).2.2 x162_4 p359 q359
          obtain rfl : ad357 = ad359 := (by injection e359)
          obtain ⟨ce359, hce359, hMe359, hcc359⟩ := Kd.S_get HO_350000.out [] x162_4 p359 (by first | exact q359 | exact of_decide_eq_true (by first | (with_reducible assumption) | assumption) | (have e_ := (Kd.S_reads' HO_350000.out).1; omega))
          obtain ⟨ve359_0, rfl, ge359_0⟩ := hMe359
          have hv359_0 := hcc359 0 _ rfl
          rw [Nat.add_zero, show ((Kd.slice 3 (Kd.int .i64))).sz = 1 from rfl, Nat.mul_one] at hv359_0
          replace hv359_0 := Option.some.inj (hv359_0.symm.trans hx359_0)
          rw [hv359_0] at ge359_0
          have HL359_0 := Aside0.mk (show Kd.R (Kd.int .i64) 3 _ _ _ _ (rd_L4 t339 x162_4) from ge359_0)
          clear hv359_0 ge359_0; clear hcc359 hce359
          have HR359_0 := Aside0.mk hi359_0
          have HC359_0 := Aside0.mk hl359_0
          clear hi359_0 hl359_0
          replace p359 := eq_true p359
          replace q359 := eq_true q359
          have ea_ := Option.some.inj (hx357_0.symm.trans hx359_0)
          injection ea_ with ea_ en_ ec_
          subst ea_; subst ec_; clear en_
          have hcz92_0 : wr.cell? ⟨gb334, 0, none⟩ = some (.slice Ao18 t321.length co18) := (blk_cell BK334.out 0).trans rfl
          have hcz92_1 : wr.cell? ⟨gb334, 1, none⟩ = some (.slice Ao20 t324.length co20) := (blk_cell BK334.out 1).trans rfl
          have hcz92_2 : wr.cell? ⟨gb334, 2, none⟩ = some (.slice Ao21 t327.length co21) := (blk_cell BK334.out 2).trans rfl
          have hcz92_3 : wr.cell? ⟨gb334, 3, none⟩ = some (.slice Ao22 t330.length co22) := (blk_cell BK334.out 3).trans rfl
          have hfz92_0 := blk_frozen BK334.out 0
          have hfz92_1 := blk_frozen BK334.out 1
          have hfz92_2 := blk_frozen BK334.out 2
          have hfz92_3 := blk_frozen BK334.out 3
          have p360 : 0 ≤ (x162_4 : Int) := of_decide_eq_true (by first | (with_reducible assumption) | assumption)
          have q360 : x162_4 < (t327.length : Int) := of_decide_eq_true (by first | (with_reducible assumption) | assumption)
          obtain ⟨ad360, e360, hx360_0⟩ := Kd.at_int (Kd.R_reads' HO_335002.out).2.2 x162_4 p360 q360
          cases e360
          replace p360 := eq_true p360
          replace q360 := eq_true q360
          go_wp2
          repeat (go_quiet (fail); try go_wp2)
          go_ret
          exact ⟨by first | rfl | (simp [errW_none, errW_some] <;> rfl) | (simp [*, errW_none, errW_some] <;> rfl), by repeat (first | (with_reducible first | exact HB.out | apply below_alloc | apply pw_below_drewN | apply below_drew1 | refine below_set ?_ GE334.out | refine below_set ?_ GE349.out) | exact HB.out)⟩
         rw [if_neg c89] at H
         have c89b0 : decide ((rd t327 x162_4) < ((rd_L4 t339 x162_4).length : Int)) = false := decide_eq_false c89
         clear c89
         by_cases c93 : x162_4 < (t330.length : Int)
         rotate_left
         ·rw [if_neg c93] at H
          exact absurd H (by simp)
         rw [if_pos c93] at H
         have c93b0 : decide (x162_4 < (t330.length : Int)) = true := decide_eq_true c93
         clear c93
         by_cases c94 : ((rd_L4 t342 x162_4).length : Int) > (rd t330 x162_4)
         ·rw [if_pos c94] at H
          have c94b0 : decide ((rd t330 x162_4) < ((rd_L4 t342 x162_4).length : Int)) = true := decide_eq_true c94
          clear c94
          obtain rfl := Option.some.inj H
          have hnb95 := NB349_334.out; have hnc95 := NB334_349.out
          have hcz96_0 : wr.cell? ⟨gb349, 0, none⟩ = some (.slice Ao40 t339.length co40) := (blk_cell BK349.out 0).trans rfl
          have hcz96_1 : wr.cell? ⟨gb349, 1, none⟩ = some (.slice Ao43 t342.length co43) := (blk_cell BK349.out 1).trans rfl
          have hcz96_2 : wr.cell? ⟨gb349, 2, none⟩ = some (.slice Ao44 t345.length co44) := (blk_cell BK349.out 2).trans rfl
          have hfz96_0 := blk_frozen BK349.out 0
          have hfz96_1 := blk_frozen BK349.out 1
          have hfz96_2 := blk_frozen BK349.out 2
          have p357 : 0 ≤ (x162_4 : Int) := of_decide_eq_true (by first | (with_reducible assumption) | assumption)
          have q357 : x162_4 < (t339.length : Int) := of_decide_eq_true (by first | (with_reducible assumption) | assumption)
          obtain ⟨ad357, A357_0, c357_0, e357, hx357_0, hl357_0, hi357_0⟩ := at_L4 (Kd.S_reads' HO_350000.out).2.2 x162_4 p357 q357
          cases e357
          obtain ⟨ce357, hce357, hMe357, hcc357⟩ := Kd.S_get HO_350000.out [] x162_4 p357 (by first | exact q357 | exact of_decide_eq_true (by first | (with_reducible assumption) | assumption) | (have e_ := (Kd.S_reads' HO_350000.out).1; omega))
          obtain ⟨ve357_0, rfl, ge357_0⟩ := hMe357
          have hv357_0 := hcc357 0 _ rfl
          rw [Nat.add_zero, show ((Kd.slice 3 (Kd.int .i64))).sz = 1 from rfl, Nat.mul_one] at hv357_0
          replace hv357_0 := Option.some.inj (hv357_0.symm.trans hx357_0)
          rw [hv357_0] at ge357_0
          have HL357_0 := Aside0.mk (show Kd.R (Kd.int .i64) 3 _ _ _ _ (rd_L4 t339 x162_4) from ge357_0)
          clear hv357_0 ge357_0; clear hcc357 hce357
          have HR357_0 := Aside0.mk hi357_0
          have HC357_0 := Aside0.mk hl357_0
          clear hi357_0 hl357_0
          replace p357 := eq_true p357
          replace q357 := eq_true q357
          have p358 : 0 ≤ (x162_4 : Int) := of_decide_eq_true (by first | (with_reducible assumption) | assumption)
          have q358 : x162_4 < (t342.length : Int) := of_decide_eq_true (by first | (with_reducible assumption) | assumption)
          obtain ⟨ad358, A358_0, c358_0, e358, hx358_0, hl358_0, hi358_0⟩ := at_L4 (Kd.S_reads' HO_350001.out).2.2 x162_4 p358 q358
          cases e358
          obtain ⟨ce358, hce358, hMe358, hcc358⟩ := Kd.S_get HO_350001.out [] x162_4 p358 (by first | exact q358 | exact of_decide_eq_true (by first | (with_reducible assumption) | assumption) | (have e_ := (Kd.S_reads' HO_350001.out).1; omega))
          obtain ⟨ve358_0, rfl, ge358_0⟩ := hMe358
          have hv358_0 := hcc358 0 _ rfl
          rw [Nat.add_zero, show ((Kd.slice 3 (Kd.int .i64))).sz = 1 from rfl, Nat.mul_one] at hv358_0
          replace hv358_0 := Option.some.inj (hv358_0.symm.trans hx358_0)
          rw [hv358_0] at ge358_0
          have HL358_0 := Aside0.mk (show Kd.R (Kd.int .i64) 3 _ _ _ _ (rd_L4 t342 x162_4) from ge358_0)
          clear hv358_0 ge358_0; clear hcc358 hce358
          have HR358_0 := Aside0.mk hi358_0
          have HC358_0 := Aside0.mk hl358_0
          clear hi358_0 hl358_0
          replace p358 := eq_true p358
          replace q358 := eq_true q358
          have p359 : 0 ≤ (x162_4 : Int) := of_decide_eq_true (by first | (with_reducible assumption) | assumption)
          have q359 : x162_4 < (t339.length : Int) := of_decide_eq_true (by first | (with_reducible assumption) | assumption)
          obtain ⟨ad359, A359_0, c359_0, e359, hx359_0, hl359_0, hi359_0⟩ := at_L4 (Kd.S_reads' HO_350000.out).2.2 x162_4 p359 q359
          obtain rfl : ad357 = ad359 := (by injection e359)
          obtain ⟨ce359, hce359, hMe359, hcc359⟩ := Kd.S_get HO_350000.out [] x162_4 p359 (by first | exact q359 | exact of_decide_eq_true (by first | (with_reducible assumption) | assumption) | (have e_ := (Kd.S_reads' HO_350000.out).1; omega))
          obtain ⟨ve359_0, rfl, ge359_0⟩ := hMe359
          have hv359_0 := hcc359 0 _ rfl
          rw [Nat.add_zero, show ((Kd.slice 3 (Kd.int .i64))).sz = 1 from rfl, Nat.mul_one] at hv359_0
          replace hv359_0 := Option.some.inj (hv359_0.symm.trans hx359_0)
          rw [hv359_0] at ge359_0
          have HL359_0 := Aside0.mk (show Kd.R (Kd.int .i64) 3 _ _ _ _ (rd_L4 t339 x162_4) from ge359_0)
          clear hv359_0 ge359_0; clear hcc359 hce359
          have HR359_0 := Aside0.mk hi359_0
          have HC359_0 := Aside0.mk hl359_0
          clear hi359_0 hl359_0
          replace p359 := eq_true p359
          replace q359 := eq_true q359
          have ea_ := Option.some.inj (hx357_0.symm.trans hx359_0)
          injection ea_ with ea_ en_ ec_
          subst ea_; subst ec_; clear en_
          have hcz97_0 : wr.cell? ⟨gb334, 0, none⟩ = some (.slice Ao18 t321.length co18) := (blk_cell BK334.out 0).trans rfl
          have hcz97_1 : wr.cell? ⟨gb334, 1, none⟩ = some (.slice Ao20 t324.length co20) := (blk_cell BK334.out 1).trans rfl
          have hcz97_2 : wr.cell? ⟨gb334, 2, none⟩ = some (.slice Ao21 t327.length co21) := (blk_cell BK334.out 2).trans rfl
          have hcz97_3 : wr.cell? ⟨gb334, 3, none⟩ = some (.slice Ao22 t330.length co22) := (blk_cell BK334.out 3).trans rfl
          have hfz97_0 := blk_frozen BK334.out 0
          have hfz97_1 := blk_frozen BK334.out 1
          have hfz97_2 := blk_frozen BK334.out 2
          have hfz97_3 := blk_frozen BK334.out 3
          have p360 : 0 ≤ (x162_4 : Int) := of_decide_eq_true (by first | (with_reducible assumption) | assumption)
          have q360 : x162_4 < (t327.length : Int) := of_decide_eq_true (by first | (with_reducible assumption) | assumption)
          obtain ⟨ad360, e360, hx360_0⟩ := Kd.at_int (Kd.R_reads' HO_335002.out).2.2 x162_4 p360 q360
          cases e360
          replace p360 := eq_true p360
          replace q360 := eq_true q360
          have p361 : 0 ≤ (x162_4 : Int) := of_decide_eq_true (by first | (with_reducible assumption) | assumption)
          have q361 : x162_4 < (t342.length : Int) := of_decide_eq_true (by first | (with_reducible assumption) | assumption)
          obtain ⟨ad361, A361_0, c361_0, e361, hx361_0, hl361_0, hi361_0⟩ := at_L4 (Kd.S_reads' HO_350001.out).2.2 x162_4 p361 q361
          obtain rfl : ad358 = ad361 := (by injection e361)
          obtain ⟨ce361, hce361, hMe361, hcc361⟩ := Kd.S_get HO_350001.out [] x162_4 p361 (by first | exact q361 | exact of_decide_eq_true (by first | (with_reducible assumption) | assumption) | (have e_ := (Kd.S_reads' HO_350001.out).1; omega))
          obtain ⟨ve361_0, rfl, ge361_0⟩ := hMe361
          have hv361_0 := hcc361 0 _ rfl
          rw [Nat.add_zero, show ((Kd.slice 3 (Kd.int .i64))).sz = 1 from rfl, Nat.mul_one] at hv361_0
          replace hv361_0 := Option.some.inj (hv361_0.symm.trans hx361_0)
          rw [hv361_0] at ge361_0
          have HL361_0 := Aside0.mk (show Kd.R (Kd.int .i64) 3 _ _ _ _ (rd_L4 t342 x162_4) from ge361_0)
          clear hv361_0 ge361_0; clear hcc361 hce361
          have HR361_0 := Aside0.mk hi361_0
          have HC361_0 := Aside0.mk hl361_0
          clear hi361_0 hl361_0
          replace p361 := eq_true p361
          replace q361 := eq_true q361
          have ea_ := Option.some.inj (hx358_0.symm.trans hx361_0)
          injection ea_ with ea_ en_ ec_
          subst ea_; subst ec_; clear en_
          have p362 : 0 ≤ (x162_4 : Int) := of_decide_eq_true (by first | (with_reducible assumption) | assumption)
          have q362 : x162_4 < (t330.length : Int) := of_decide_eq_true (by first | (with_reducible assumption) | assumption)
          obtain ⟨ad362, e362, hx362_0⟩ := Kd.at_int (Kd.R_reads' HO_335003.out).2.2 x162_4 p362 q362
          cases e362
          replace p362 := eq_true p362
          replace q362 := eq_true q362
          go_wp2
          repeat (go_quiet (fail); try go_wp2)
          go_ret
          exact ⟨by first | rfl | (simp [errW_none, errW_some] <;> rfl) | (simp [*, errW_none, errW_some] <;> rfl), by repeat (first | (with_reducible first | exact HB.out | apply below_alloc | apply pw_below_drewN | apply below_drew1 | refine below_set ?_ GE334.out | refine below_set ?_ GE349.out) | exact HB.out)⟩
         rw [if_neg c94] at H
         have c94b0 : decide ((rd t330 x162_4) < ((rd_L4 t342 x162_4).length : Int)) = false := decide_eq_false c94
         clear c94
         by_cases c98 : x162_4 < (t318.length : Int)
         rotate_left
         ·rw [if_neg c98] at H
          exact absurd H (by simp)
         rw [if_pos c98] at H
         have c98b0 : decide (x162_4 < (t318.length : Int)) = true := decide_eq_true c98
         clear c98
         by_cases c99 : (rd t327 x162_4) > (rd t318 x162_4)
         ·rw [if_pos c99] at H
          have c99b0 : decide ((rd t318 x162_4) < (rd t327 x162_4)) = true := decide_eq_true c99
          clear c99
          obtain rfl := Option.some.inj H
          have hnb100 := NB349_334.out; have hnc100 := NB334_349.out
          have hcz101_0 : wr.cell? ⟨gb349, 0, none⟩ = some (.slice Ao40 t339.length co40) := (blk_cell BK349.out 0).trans rfl
          have hcz101_1 : wr.cell? ⟨gb349, 1, none⟩ = some (.slice Ao43 t342.length co43) := (blk_cell BK349.out 1).trans rfl
          have hcz101_2 : wr.cell? ⟨gb349, 2, none⟩ = some (.slice Ao44 t345.length co44) := (blk_cell BK349.out 2).trans rfl
          have hfz101_0 := blk_frozen BK349.out 0
          have hfz101_1 := blk_frozen BK349.out 1
          have hfz101_2 := blk_frozen BK349.out 2
          have p357 : 0 ≤ (x162_4 : Int) := of_decide_eq_true (by first | (with_reducible assumption) | assumption)
          have q357 : x162_4 < (t339.length : Int) := of_decide_eq_true (by first | (with_reducible assumption) | assumption)
          obtain ⟨ad357, A357_0, c357_0, e357, hx357_0, hl357_0, hi357_0⟩ := at_L4 (Kd.S_reads' HO_350000.out).2.2 x162_4 p357 q357
          cases e357
          obtain ⟨ce357, hce357, hMe357, hcc357⟩ := Kd.S_get HO_350000.out [] x162_4 p357 (by first | exact q357 | exact of_decide_eq_true (by first | (with_reducible assumption) | assumption) | (have e_ := (Kd.S_reads' HO_350000.out).1; omega))
          obtain ⟨ve357_0, rfl, ge357_0⟩ := hMe357
          have hv357_0 := hcc357 0 _ rfl
          rw [Nat.add_zero, show ((Kd.slice 3 (Kd.int .i64))).sz = 1 from rfl, Nat.mul_one] at hv357_0
          replace hv357_0 := Option.some.inj (hv357_0.symm.trans hx357_0)
          rw [hv357_0] at ge357_0
          have HL357_0 := Aside0.mk (show Kd.R (Kd.int .i64) 3 _ _ _ _ (rd_L4 t339 x162_4) from ge357_0)
          clear hv357_0 ge357_0; clear hcc357 hce357
          have HR357_0 := Aside0.mk hi357_0
          have HC357_0 := Aside0.mk hl357_0
          clear hi357_0 hl357_0
          replace p357 := eq_true p357
          replace q357 := eq_true q357
          have p358 : 0 ≤ (x162_4 : Int) := of_decide_eq_true (by first | (with_reducible assumption) | assumption)
          have q358 : x162_4 < (t342.length : Int) := of_decide_eq_true (by first | (with_reducible assumption) | assumption)
          obtain ⟨ad358, A358_0, c358_0, e358, hx358_0, hl358_0, hi358_0⟩ := at_L4 (Kd.S_reads' HO_350001.out).2.2 x162_4 p358 q358
          cases e358
          obtain ⟨ce358, hce358, hMe358, hcc358⟩ := Kd.S_get HO_350001.out [] x162_4 p358 (by first | exact q358 | exact of_decide_eq_true (by first | (with_reducible assumption) | assumption) | (have e_ := (Kd.S_reads' HO_350001.out).1; omega))
          obtain ⟨ve358_0, rfl, ge358_0⟩ := hMe358
          have hv358_0 := hcc358 0 _ rfl
          rw [Nat.add_zero, show ((Kd.slice 3 (Kd.int .i64))).sz = 1 from rfl, Nat.mul_one] at hv358_0
          replace hv358_0 := Option.some.inj (hv358_0.symm.trans hx358_0)
          rw [hv358_0] at ge358_0
          have HL358_0 := Aside0.mk (show Kd.R (Kd.int .i64) 3 _ _ _ _ (rd_L4 t342 x162_4) from ge358_0)
          clear hv358_0 ge358_0; clear hcc358 hce358
          have HR358_0 := Aside0.mk hi358_0
          have HC358_0 := Aside0.mk hl358_0
          clear hi358_0 hl358_0
          replace p358 := eq_true p358
          replace q358 := eq_true q358
          have p359 : 0 ≤ (x162_4 : Int) := of_decide_eq_true (by first | (with_reducible assumption) | assumption)
          have q359 : x162_4 < (t339.length : Int) := of_decide_eq_true (by first | (with_reducible assumption) | assumption)
          obtain ⟨ad359, A359_0, c359_0, e359, hx359_0, hl359_0, hi359_0⟩ := at_L4 (Kd.S_reads' HO_350000.out).2.2 x162_4 p359 q359
          obtain rfl : ad357 = ad359 := (by injection e359)
          obtain ⟨ce359, hce359, hMe359, hcc359⟩ := Kd.S_get HO_350000.out [] x162_4 p359 (by first | exact q359 | exact of_decide_eq_true (by first | (with_reducible assumption) | assumption) | (have e_ := (Kd.S_reads' HO_350000.out).1; omega))
          obtain ⟨ve359_0, rfl, ge359_0⟩ := hMe359
          have hv359_0 := hcc359 0 _ rfl
          rw [Nat.add_zero, show ((Kd.slice 3 (Kd.int .i64))).sz = 1 from rfl, Nat.mul_one] at hv359_0
          replace hv359_0 := Option.some.inj (hv359_0.symm.trans hx359_0)
          rw [hv359_0] at ge359_0
          have HL359_0 := Aside0.mk (show Kd.R (Kd.int .i64) 3 _ _ _ _ (rd_L4 t339 x162_4) from ge359_0)
          clear hv359_0 ge359_0; clear hcc359 hce359
          have HR359_0 := Aside0.mk hi359_0
          have HC359_0 := Aside0.mk hl359_0
          clear hi359_0 hl359_0
          replace p359 := eq_true p359
          replace q359 := eq_true q359
          have ea_ := Option.some.inj (hx357_0.symm.trans hx359_0)
          injection ea_ with ea_ en_ ec_
          subst ea_; subst ec_; clear en_
          have hcz102_0 : wr.cell? ⟨gb334, 0, none⟩ = some (.slice Ao18 t321.length co18) := (blk_cell BK334.out 0).trans rfl
          have hcz102_1 : wr.cell? ⟨gb334, 1, none⟩ = some (.slice Ao20 t324.length co20) := (blk_cell BK334.out 1).trans rfl
          have hcz102_2 : wr.cell? ⟨gb334, 2, none⟩ = some (.slice Ao21 t327.length co21) := (blk_cell BK334.out 2).trans rfl
          have hcz102_3 : wr.cell? ⟨gb334, 3, none⟩ = some (.slice Ao22 t330.length co22) := (blk_cell BK334.out 3).trans rfl
          have hfz102_0 := blk_frozen BK334.out 0
          have hfz102_1 := blk_frozen BK334.out 1
          have hfz102_2 := blk_frozen BK334.out 2
          have hfz102_3 := blk_frozen BK334.out 3
          have p360 : 0 ≤ (x162_4 : Int) := of_decide_eq_true (by first | (with_reducible assumption) | assumption)
          have q360 : x162_4 < (t327.length : Int) := of_decide_eq_true (by first | (with_reducible assumption) | assumption)
          obtain ⟨ad360, e360, hx360_0⟩ := Kd.at_int (Kd.R_reads' HO_335002.out).2.2 x162_4 p360 q360
          cases e360
          replace p360 := eq_true p360
          replace q360 := eq_true q360
          have p361 : 0 ≤ (x162_4 : Int) := of_decide_eq_true (by first | (with_reducible assumption) | assumption)
          have q361 : x162_4 < (t342.length : Int) := of_decide_eq_true (by first | (with_reducible assumption) | assumption)
          obtain ⟨ad361, A361_0, c361_0, e361, hx361_0, hl361_0, hi361_0⟩ := at_L4 (Kd.S_reads' HO_350001.out).2.2 x162_4 p361 q361
          obtain rfl : ad358 = ad361 := (by injection e361)
          obtain ⟨ce361, hce361, hMe361, hcc361⟩ := Kd.S_get HO_350001.out [] x162_4 p361 (by first | exact q361 | exact of_decide_eq_true (by first | (with_reducible assumption) | assumption) | (have e_ := (Kd.S_reads' HO_350001.out).1; omega))
          obtain ⟨ve361_0, rfl, ge361_0⟩ := hMe361
          have hv361_0 := hcc361 0 _ rfl
          rw [Nat.add_zero, show ((Kd.slice 3 (Kd.int .i64))).sz = 1 from rfl, Nat.mul_one] at hv361_0
          replace hv361_0 := Option.some.inj (hv361_0.symm.trans hx361_0)
          rw [hv361_0] at ge361_0
          have HL361_0 := Aside0.mk (show Kd.R (Kd.int .i64) 3 _ _ _ _ (rd_L4 t342 x162_4) from ge361_0)
          clear hv361_0 ge361_0; clear hcc361 hce361
          have HR361_0 := Aside0.mk hi361_0
          have HC361_0 := Aside0.mk hl361_0
          clear hi361_0 hl361_0
          replace p361 := eq_true p361
          replace q361 := eq_true q361
          have ea_ := Option.some.inj (hx358_0.symm.trans hx361_0)
          injection ea_ with ea_ en_ ec_
          subst ea_; subst ec_; clear en_
          have p362 : 0 ≤ (x162_4 : Int) := of_decide_eq_true (by first | (with_reducible assumption) | assumption)
          have q362 : x162_4 < (t330.length : Int) := of_decide_eq_true (by first | (with_reducible assumption) | assumption)
          obtain ⟨ad362, e362, hx362_0⟩ := Kd.at_int (Kd.R_reads' HO_335003.out).2.2 x162_4 p362 q362
          cases e362
          replace p362 := eq_true p362
          replace q362 := eq_true q362
          have p363 : 0 ≤ (x162_4 : Int) := of_decide_eq_true (by first | (with_reducible assumption) | assumption)
          have q363 : x162_4 < (t327.length : Int) := of_decide_eq_true (by first | (with_reducible assumption) | assumption)
          obtain ⟨ad363, e363, hx363_0⟩ := Kd.at_int (Kd.R_reads' HO_335002.out).2.2 x162_4 p363 q363
          obtain rfl : ad360 = ad363 := (by injection e363)
          replace p363 := eq_true p363
          replace q363 := eq_true q363
          have p364 : 0 ≤ (x162_4 : Int) := of_decide_eq_true (by first | (with_reducible assumption) | assumption)
          have q364 : x162_4 < (t318.length : Int) := of_decide_eq_true (by first | (with_reducible assumption) | assumption)
          obtain ⟨ad364, e364, hx364_0⟩ := Kd.at_int (Kd.R_reads' HO_8.out).2.2 x162_4 p364 q364
          cases e364
          replace p364 := eq_true p364
          replace q364 := eq_true q364
          go_wp2
          repeat (go_quiet (fail); try go_wp2)
          go_ret
          exact ⟨by first | rfl | (simp [errW_none, errW_some] <;> rfl) | (simp [*, errW_none, errW_some] <;> rfl), by repeat (first | (with_reducible first | exact HB.out | apply below_alloc | apply pw_below_drewN | apply below_drew1 | refine below_set ?_ GE334.out | refine below_set ?_ GE349.out) | exact HB.out)⟩
         rw [if_neg c99] at H
         have c99b0 : decide ((rd t318 x162_4) < (rd t327 x162_4)) = false := decide_eq_false c99
         clear c99
         by_cases c103 : (rd t330 x162_4) > (rd t318 x162_4)
         ·rw [if_pos c103] at H
          have c103b0 : decide ((rd t318 x162_4) < (rd t330 x162_4)) = true := decide_eq_true c103
          clear c103
          obtain rfl := Option.some.inj H
          have hnb104 := NB349_334.out; have hnc104 := NB334_349.out
          have hcz105_0 : wr.cell? ⟨gb349, 0, none⟩ = some (.slice Ao40 t339.length co40) := (blk_cell BK349.out 0).trans rfl
          have hcz105_1 : wr.cell? ⟨gb349, 1, none⟩ = some (.slice Ao43 t342.length co43) := (blk_cell BK349.out 1).trans rfl
          have hcz105_2 : wr.cell? ⟨gb349, 2, none⟩ = some (.slice Ao44 t345.length co44) := (blk_cell BK349.out 2).trans rfl
          have hfz105_0 := blk_frozen BK349.out 0
          have hfz105_1 := blk_frozen BK349.out 1
          have hfz105_2 := blk_frozen BK349.out 2
          have p357 : 0 ≤ (x162_4 : Int) := of_decide_eq_true (by first | (with_reducible assumption) | assumption)
          have q357 : x162_4 < (t339.length : Int) := of_decide_eq_true (by first | (with_reducible assumption) | assumption)
          obtain ⟨ad357, A357_0, c357_0, e357, hx357_0, hl357_0, hi357_0⟩ := at_L4 (Kd.S_reads' HO_350000.out).2.2 x162_4 p357 q357
          cases e357
          obtain ⟨ce357, hce357, hMe357, hcc357⟩ := Kd.S_get HO_350000.out [] x162_4 p357 (by first | exact q357 | exact of_decide_eq_true (by first | (with_reducible assumption) | assumption) | (have e_ := (Kd.S_reads' HO_350000.out).1; omega))
          obtain ⟨ve357_0, rfl, ge357_0⟩ := hMe357
          have hv357_0 := hcc357 0 _ rfl
          rw [Nat.add_zero, show ((Kd.slice 3 (Kd.int .i64))).sz = 1 from rfl, Nat.mul_one] at hv357_0
          replace hv357_0 := Option.some.inj (hv357_0.symm.trans hx357_0)
          rw [hv357_0] at ge357_0
          have HL357_0 := Aside0.mk (show Kd.R (Kd.int .i64) 3 _ _ _ _ (rd_L4 t339 x162_4) from ge357_0)
          clear hv357_0 ge357_0; clear hcc357 hce357
          have HR357_0 := Aside0.mk hi357_0
          have HC357_0 := Aside0.mk hl357_0
          clear hi357_0 hl357_0
          replace p357 := eq_true p357
          replace q357 := eq_true q357
          have p358 : 0 ≤ (x162_4 : Int) := of_decide_eq_true (by first | (with_reducible assumption) | assumption)
          have q358 : x162_4 < (t342.length : Int) := of_decide_eq_true (by first | (with_reducible assumption) | assumption)
          obtain ⟨ad358, A358_0, c358_0, e358, hx358_0, hl358_0, hi358_0⟩ := at_L4 (Kd.S_reads' HO_350001.out).2.2 x162_4 p358 q358
          cases e358
          obtain ⟨ce358, hce358, hMe358, hcc358⟩ := Kd.S_get HO_350001.out [] x162_4 p358 (by first | exact q358 | exact of_decide_eq_true (by first | (with_reducible assumption) | assumption) | (have e_ := (Kd.S_reads' HO_350001.out).1; omega))
          obtain ⟨ve358_0, rfl, ge358_0⟩ := hMe358
          have hv358_0 := hcc358 0 _ rfl
          rw [Nat.add_zero, show ((Kd.slice 3 (Kd.int .i64))).sz = 1 from rfl, Nat.mul_one] at hv358_0
          replace hv358_0 := Option.some.inj (hv358_0.symm.trans hx358_0)
          rw [hv358_0] at ge358_0
          have HL358_0 := Aside0.mk (show Kd.R (Kd.int .i64) 3 _ _ _ _ (rd_L4 t342 x162_4) from ge358_0)
          clear hv358_0 ge358_0; clear hcc358 hce358
          have HR358_0 := Aside0.mk hi358_0
          have HC358_0 := Aside0.mk hl358_0
          clear hi358_0 hl358_0
          replace p358 := eq_true p358
          replace q358 := eq_true q358
          have p359 : 0 ≤ (x162_4 : Int) := of_decide_eq_true (by first | (with_reducible assumption) | assumption)
          have q359 : x162_4 < (t339.length : Int) := of_decide_eq_true (by first | (with_reducible assumption) | assumption)
          obtain ⟨ad359, A359_0, c359_0, e359, hx359_0, hl359_0, hi359_0⟩ := at_L4 (Kd.S_reads' HO_350000.out).2.2 x162_4 p359 q359
          obtain rfl : ad357 = ad359 := (by injection e359)
          obtain ⟨ce359, hce359, hMe359, hcc359⟩ := Kd.S_get HO_350000.out [] x162_4 p359 (by first | exact q359 | exact of_decide_eq_true (by first | (with_reducible assumption) | assumption) | (have e_ := (Kd.S_reads' HO_350000.out).1; omega))
          obtain ⟨ve359_0, rfl, ge359_0⟩ := hMe359
          have hv359_0 := hcc359 0 _ rfl
          rw [Nat.add_zero, show ((Kd.slice 3 (Kd.int .i64))).sz = 1 from rfl, Nat.mul_one] at hv359_0
          replace hv359_0 := Option.some.inj (hv359_0.symm.trans hx359_0)
          rw [hv359_0] at ge359_0
          have HL359_0 := Aside0.mk (show Kd.R (Kd.int .i64) 3 _ _ _ _ (rd_L4 t339 x162_4) from ge359_0)
          clear hv359_0 ge359_0; clear hcc359 hce359
          have HR359_0 := Aside0.mk hi359_0
          have HC359_0 := Aside0.mk hl359_0
          clear hi359_0 hl359_0
          replace p359 := eq_true p359
          replace q359 := eq_true q359
          have ea_ := Option.some.inj (hx357_0.symm.trans hx359_0)
          injection ea_ with ea_ en_ ec_
          subst ea_; subst ec_; clear en_
          have hcz106_0 : wr.cell? ⟨gb334, 0, none⟩ = some (.slice Ao18 t321.length co18) := (blk_cell BK334.out 0).trans rfl
          have hcz106_1 : wr.cell? ⟨gb334, 1, none⟩ = some (.slice Ao20 t324.length co20) := (blk_cell BK334.out 1).trans rfl
          have hcz106_2 : wr.cell? ⟨gb334, 2, none⟩ = some (.slice Ao21 t327.length co21) := (blk_cell BK334.out 2).trans rfl
          have hcz106_3 : wr.cell? ⟨gb334, 3, none⟩ = some (.slice Ao22 t330.length co22) := (blk_cell BK334.out 3).trans rfl
          have hfz106_0 := blk_frozen BK334.out 0
          have hfz106_1 := blk_frozen BK334.out 1
          have hfz106_2 := blk_frozen BK334.out 2
          have hfz106_3 := blk_frozen BK334.out 3
          have p360 : 0 ≤ (x162_4 : Int) := of_decide_eq_true (by first | (with_reducible assumption) | assumption)
          have q360 : x162_4 < (t327.length : Int) := of_decide_eq_true (by first | (with_reducible assumption) | assumption)
          obtain ⟨ad360, e360, hx360_0⟩ := Kd.at_int (Kd.R_reads' HO_335002.out).2.2 x162_4 p360 q360
          cases e360
          replace p360 := eq_true p360
          replace q360 := eq_true q360
          have p361 : 0 ≤ (x162_4 : Int) := of_decide_eq_true (by first | (with_reducible assumption) | assumption)
          have q361 : x162_4 < (t342.length : Int) := of_decide_eq_true (by first | (with_reducible assumption) | assumption)
          obtain ⟨ad361, A361_0, c361_0, e361, hx361_0, hl361_0, hi361_0⟩ := at_L4 (Kd.S_reads' HO_350001.out).2.2 x162_4 p361 q361
          obtain rfl : ad358 = ad361 := (by injection e361)
          obtain ⟨ce361, hce361, hMe361, hcc361⟩ := Kd.S_get HO_350001.out [] x162_4 p361 (by first | exact q361 | exact of_decide_eq_true (by first | (with_reducible assumption) | assumption) | (have e_ := (Kd.S_reads' HO_350001.out).1; omega))
          obtain ⟨ve361_0, rfl, ge361_0⟩ := hMe361
          have hv361_0 := hcc361 0 _ rfl
          rw [Nat.add_zero, show ((Kd.slice 3 (Kd.int .i64))).sz = 1 from rfl, Nat.mul_one] at hv361_0
          replace hv361_0 := Option.some.inj (hv361_0.symm.trans hx361_0)
          rw [hv361_0] at ge361_0
          have HL361_0 := Aside0.mk (show Kd.R (Kd.int .i64) 3 _ _ _ _ (rd_L4 t342 x162_4) from ge361_0)
          clear hv361_0 ge361_0; clear hcc361 hce361
          have HR361_0 := Aside0.mk hi361_0
          have HC361_0 := Aside0.mk hl361_0
          clear hi361_0 hl361_0
          replace p361 := eq_true p361
          replace q361 := eq_true q361
          have ea_ := Option.some.inj (hx358_0.symm.trans hx361_0)
          injection ea_ with ea_ en_ ec_
          subst ea_; subst ec_; clear en_
          have p362 : 0 ≤ (x162_4 : Int) := of_decide_eq_true (by first | (with_reducible assumption) | assumption)
          have q362 : x162_4 < (t330.length : Int) := of_decide_eq_true (by first | (with_reducible assumption) | assumption)
          obtain ⟨ad362, e362, hx362_0⟩ := Kd.at_int (Kd.R_reads' HO_335003.out).2.2 x162_4 p362 q362
          cases e362
          replace p362 := eq_true p362
          replace q362 := eq_true q362
          have p363 : 0 ≤ (x162_4 : Int) := of_decide_eq_true (by first | (with_reducible assumption) | assumption)
          have q363 : x162_4 < (t327.length : Int) := of_decide_eq_true (by first | (with_reducible assumption) | assumption)
          obtain ⟨ad363, e363, hx363_0⟩ := Kd.at_int (Kd.R_reads' HO_335002.out).2.2 x162_4 p363 q363
          obtain rfl : ad360 = ad363 := (by injection e363)
          replace p363 := eq_true p363
          replace q363 := eq_true q363
          have p364 : 0 ≤ (x162_4 : Int) := of_decide_eq_true (by first | (with_reducible assumption) | assumption)
          have q364 : x162_4 < (t318.length : Int) := of_decide_eq_true (by first | (with_reducible assumption) | assumption)
          obtain ⟨ad364, e364, hx364_0⟩ := Kd.at_int (Kd.R_reads' HO_8.out).2.2 x162_4 p364 q364
          cases e364
          replace p364 := eq_true p364
          replace q364 := eq_true q364
          have p365 : 0 ≤ (x162_4 : Int) := of_decide_eq_true (by first | (with_reducible assumption) | assumption)
          have q365 : x162_4 < (t330.length : Int) := of_decide_eq_true (by first | (with_reducible assumption) | assumption)
          obtain ⟨ad365, e365, hx365_0⟩ := Kd.at_int (Kd.R_reads' HO_335003.out).2.2 x162_4 p365 q365
          obtain rfl : ad362 = ad365 := (by injection e365)
          replace p365 := eq_true p365
          replace q365 := eq_true q365
          have p366 : 0 ≤ (x162_4 : Int) := of_decide_eq_true (by first | (with_reducible assumption) | assumption)
          have q366 : x162_4 < (t318.length : Int) := of_decide_eq_true (by first | (with_reducible assumption) | assumption)
          obtain ⟨ad366, e366, hx366_0⟩ := Kd.at_int (Kd.R_reads' HO_8.out).2.2 x162_4 p366 q366
          obtain rfl : ad364 = ad366 := (by injection e366)
          replace p366 := eq_true p366
          replace q366 := eq_true q366
          go_wp2
          repeat (go_quiet (fail); try go_wp2)
          go_ret
          exact ⟨by first | rfl | (simp [errW_none, errW_some] <;> rfl) | (simp [*, errW_none, errW_some] <;> rfl), by repeat (first | (with_reducible first | exact HB.out | apply below_alloc | apply pw_below_drewN | apply below_drew1 | refine below_set ?_ GE334.out | refine below_set ?_ GE349.out) | exact HB.out)⟩
         rw [if_neg c103] at H
         have c103b0 : decide ((rd t318 x162_4) < (rd t330 x162_4)) = false := decide_eq_false c103
         clear c103
         have H' := Aside0.mk H
         clear H; have hnb107 := NB349_334.out; have hnc107 := NB334_349.out
         have hcz108_0 : wr.cell? ⟨gb349, 0, none⟩ = some (.slice Ao40 t339.length co40) := (blk_cell BK349.out 0).trans rfl
         have hcz108_1 : wr.cell? ⟨gb349, 1, none⟩ = some (.slice Ao43 t342.length co43) := (blk_cell BK349.out 1).trans rfl
         have hcz108_2 : wr.cell? ⟨gb349, 2, none⟩ = some (.slice Ao44 t345.length co44) := (blk_cell BK349.out 2).trans rfl
         have hfz108_0 := blk_frozen BK349.out 0
         have hfz108_1 := blk_frozen BK349.out 1
         have hfz108_2 := blk_frozen BK349.out 2
         have p357 : 0 ≤ (x162_4 : Int) := of_decide_eq_true (by first | (with_reducible assumption) | assumption)
         have q357 : x162_4 < (t339.length : Int) := of_decide_eq_true (by first | (with_reducible assumption) | assumption)
         obtain ⟨ad357, A357_0, c357_0, e357, hx357_0, hl357_0, hi357_0⟩ := at_L4 (Kd.S_reads' HO_350000.out).2.2 x162_4 p357 q357
         cases e357
         obtain ⟨ce357, hce357, hMe357, hcc357⟩ := Kd.S_get HO_350000.out [] x162_4 p357 (by first | exact q357 | exact of_decide_eq_true (by first | (with_reducible assumption) | assumption) | (have e_ := (Kd.S_reads' HO_350000.out).1; omega))
         obtain ⟨ve357_0, rfl, ge357_0⟩ := hMe357
         have hv357_0 := hcc357 0 _ rfl
         rw [Nat.add_zero, show ((Kd.slice 3 (Kd.int .i64))).sz = 1 from rfl, Nat.mul_one] at hv357_0
         replace hv357_0 := Option.some.inj (hv357_0.symm.trans hx357_0)
         rw [hv357_0] at ge357_0
         have HL357_0 := Aside0.mk (show Kd.R (Kd.int .i64) 3 _ _ _ _ (rd_L4 t339 x162_4) from ge357_0)
         clear hv357_0 ge357_0; clear hcc357 hce357
         have HR357_0 := Aside0.mk hi357_0
         have HC357_0 := Aside0.mk hl357_0
         clear hi357_0 hl357_0
         replace p357 := eq_true p357
         replace q357 := eq_true q357
         have p358 : 0 ≤ (x162_4 : Int) := of_decide_eq_true (by first | (with_reducible assumption) | assumption)
         have q358 : x162_4 < (t342.length : Int) := of_decide_eq_true (by first | (with_reducible assumption) | assumption)
         obtain ⟨ad358, A358_0, c358_0, e358, hx358_0, hl358_0, hi358_0⟩ := at_L4 (Kd.S_reads' HO_350001.out).2.2 x162_4 p358 q358
         cases e358
         obtain ⟨ce358, hce358, hMe358, hcc358⟩ := Kd.S_get HO_350001.out [] x162_4 p358 (by first | exact q358 | exact of_decide_eq_true (by first | (with_reducible assumption) | assumption) | (have e_ := (Kd.S_reads' HO_350001.out).1; omega))
         obtain ⟨ve358_0, rfl, ge358_0⟩ := hMe358
         have hv358_0 := hcc358 0 _ rfl
         rw [Nat.add_zero, show ((Kd.slice 3 (Kd.int .i64))).sz = 1 from rfl, Nat.mul_one] at hv358_0
         replace hv358_0 := Option.some.inj (hv358_0.symm.trans hx358_0)
         rw [hv358_0] at ge358_0
         have HL358_0 := Aside0.mk (show Kd.R (Kd.int .i64) 3 _ _ _ _ (rd_L4 t342 x162_4) from ge358_0)
         clear hv358_0 ge358_0; clear hcc358 hce358
         have HR358_0 := Aside0.mk hi358_0
         have HC358_0 := Aside0.mk hl358_0
         clear hi358_0 hl358_0
         replace p358 := eq_true p358
         replace q358 := eq_true q358
         have p359 : 0 ≤ (x162_4 : Int) := of_decide_eq_true (by first | (with_reducible assumption) | assumption)
         have q359 : x162_4 < (t339.length : Int) := of_decide_eq_true (by first | (with_reducible assumption) | assumption)
         obtain ⟨ad359, A359_0, c359_0, e359, hx359_0, hl359_0, hi359_0⟩ := at_L4 (Kd.S_reads' HO_350000.out).2.2 x162_4 p359 q359
         obtain rfl : ad357 = ad359 := (by injection e359)
         obtain ⟨ce359, hce359, hMe359, hcc359⟩ := Kd.S_get HO_350000.out [] x162_4 p359 (by first | exact q359 | exact of_decide_eq_true (by first | (with_reducible assumption) | assumption) | (have e_ := (Kd.S_reads' HO_350000.out).1; omega))
         obtain ⟨ve359_0, rfl, ge359_0⟩ := hMe359
         have hv359_0 := hcc359 0 _ rfl
         rw [Nat.add_zero, show ((Kd.slice 3 (Kd.int .i64))).sz = 1 from rfl, Nat.mul_one] at hv359_0
         replace hv359_0 := Option.some.inj (hv359_0.symm.trans hx359_0)
         rw [hv359_0] at ge359_0
         have HL359_0 := Aside0.mk (show Kd.R (Kd.int .i64) 3 _ _ _ _ (rd_L4 t339 x162_4) from ge359_0)
         clear hv359_0 ge359_0; clear hcc359 hce359
         have HR359_0 := Aside0.mk hi359_0
         have HC359_0 := Aside0.mk hl359_0
         clear hi359_0 hl359_0
         replace p359 := eq_true p359
         replace q359 := eq_true q359
         have ea_ := Option.some.inj (hx357_0.symm.trans hx359_0)
         injection ea_ with ea_ en_ ec_
         subst ea_; subst ec_; clear en_
         have hcz109_0 : wr.cell? ⟨gb334, 0, none⟩ = some (.slice Ao18 t321.length co18) := (blk_cell BK334.out 0).trans rfl
         have hcz109_1 : wr.cell? ⟨gb334, 1, none⟩ = some (.slice Ao20 t324.length co20) := (blk_cell BK334.out 1).trans rfl
         have hcz109_2 : wr.cell? ⟨gb334, 2, none⟩ = some (.slice Ao21 t327.length co21) := (blk_cell BK334.out 2).trans rfl
         have hcz109_3 : wr.cell? ⟨gb334, 3, none⟩ = some (.slice Ao22 t330.length co22) := (blk_cell BK334.out 3).trans rfl
         have hfz109_0 := blk_frozen BK334.out 0
         have hfz109_1 := blk_frozen BK334.out 1
         have hfz109_2 := blk_frozen BK334.out 2
         have hfz109_3 := blk_frozen BK334.out 3
         have p360 : 0 ≤ (x162_4 : Int) := of_decide_eq_true (by first | (with_reducible assumption) | assumption)
         have q360 : x162_4 < (t327.length : Int) := of_decide_eq_true (by first | (with_reducible assumption) | assumption)
         obtain ⟨ad360, e360, hx360_0⟩ := Kd.at_int (Kd.R_reads' HO_335002.out).2.2 x162_4 p360 q360
         cases e360
         replace p360 := eq_true p360
         replace q360 := eq_true q360
         have p361 : 0 ≤ (x162_4 : Int) := of_decide_eq_true (by first | (with_reducible assumption) | assumption)
         have q361 : x162_4 < (t342.length : Int) := of_decide_eq_true (by first | (with_reducible assumption) | assumption)
         obtain ⟨ad361, A361_0, c361_0, e361, hx361_0, hl361_0, hi361_0⟩ := at_L4 (Kd.S_reads' HO_350001.out).2.2 x162_4 p361 q361
         obtain rfl : ad358 = ad361 := (by injection e361)
         obtain ⟨ce361, hce361, hMe361, hcc361⟩ := Kd.S_get HO_350001.out [] x162_4 p361 (by first | exact q361 | exact of_decide_eq_true (by first | (with_reducible assumption) | assumption) | (have e_ := (Kd.S_reads' HO_350001.out).1; omega))
         obtain ⟨ve361_0, rfl, ge361_0⟩ := hMe361
         have hv361_0 := hcc361 0 _ rfl
         rw [Nat.add_zero, show ((Kd.slice 3 (Kd.int .i64))).sz = 1 from rfl, Nat.mul_one] at hv361_0
         replace hv361_0 := Option.some.inj (hv361_0.symm.trans hx361_0)
         rw [hv361_0] at ge361_0
         have HL361_0 := Aside0.mk (show Kd.R (Kd.int .i64) 3 _ _ _ _ (rd_L4 t342 x162_4) from ge361_0)
         clear hv361_0 ge361_0; clear hcc361 hce361
         have HR361_0 := Aside0.mk hi361_0
         have HC361_0 := Aside0.mk hl361_0
         clear hi361_0 hl361_0
         replace p361 := eq_true p361
         replace q361 := eq_true q361
         have ea_ := Option.some.inj (hx358_0.symm.trans hx361_0)
         injection ea_ with ea_ en_ ec_
         subst ea_; subst ec_; clear en_
         have p362 : 0 ≤ (x162_4 : Int) := of_decide_eq_true (by first | (with_reducible assumption) | assumption)
         have q362 : x162_4 < (t330.length : Int) := of_decide_eq_true (by first | (with_reducible assumption) | assumption)
         obtain ⟨ad362, e362, hx362_0⟩ := Kd.at_int (Kd.R_reads' HO_335003.out).2.2 x162_4 p362 q362
         cases e362
         replace p362 := eq_true p362
         replace q362 := eq_true q362
         have p363 : 0 ≤ (x162_4 : Int) := of_decide_eq_true (by first | (with_reducible assumption) | assumption)
         have q363 : x162_4 < (t327.length : Int) := of_decide_eq_true (by first | (with_reducible assumption) | assumption)
         obtain ⟨ad363, e363, hx363_0⟩ := Kd.at_int (Kd.R_reads' HO_335002.out).2.2 x162_4 p363 q363
         obtain rfl : ad360 = ad363 := (by injection e363)
         replace p363 := eq_true p363
         replace q363 := eq_true q363
         have p364 : 0 ≤ (x162_4 : Int) := of_decide_eq_true (by first | (with_reducible assumption) | assumption)
         have q364 : x162_4 < (t318.length : Int) := of_decide_eq_true (by first | (with_reducible assumption) | assumption)
         obtain ⟨ad364, e364, hx364_0⟩ := Kd.at_int (Kd.R_reads' HO_8.out).2.2 x162_4 p364 q364
         cases e364
         replace p364 := eq_true p364
         replace q364 := eq_true q364
         have p365 : 0 ≤ (x162_4 : Int) := of_decide_eq_true (by first | (with_reducible assumption) | assumption)
         have q365 : x162_4 < (t330.length : Int) := of_decide_eq_true (by first | (with_reducible assumption) | assumption)
         obtain ⟨ad365, e365, hx365_0⟩ := Kd.at_int (Kd.R_reads' HO_335003.out).2.2 x162_4 p365 q365
         obtain rfl : ad362 = ad365 := (by injection e365)
         replace p365 := eq_true p365
         replace q365 := eq_true q365
         have p366 : 0 ≤ (x162_4 : Int) := of_decide_eq_true (by first | (with_reducible assumption) | assumption)
         have q366 : x162_4 < (t318.length : Int) := of_decide_eq_true (by first | (with_reducible assumption) | assumption)
         obtain ⟨ad366, e366, hx366_0⟩ := Kd.at_int (Kd.R_reads' HO_8.out).2.2 x162_4 p366 q366
         obtain rfl : ad364 = ad366 := (by injection e366)
         replace p366 := eq_true p366
         replace q366 := eq_true q366
         go_wp2
         repeat (go_quiet (fail); try go_wp2)
         go_roundg k4
         case measure => have := HJ9.out; have := HJ33.out; have := HK3.out; have := HK4.out; omega
         case rel => exact ⟨(wrap64 (x17_4 + ((rd_L4 t339 x162_4).length : Int))), (wrap64 (x18_4 + ((rd_L4 t342 x162_4).length : Int))), (wrap64 (x162_4 + 1)), (by first | rfl | (simp; done) | (simp [*]; done)), (by first | rfl | (simp; done) | (simp [*]; done)), (by first | rfl | (simp; done) | (simp [*]; done)), H', ⟨by have := HJ9.out; have := HJ33.out; have := HK3.out; have := HK4.out; omega⟩, ⟨by (with_reducible repeat (first | apply Kd.R_alloc | apply Kd.R_drewN | apply Kd.R_drew)); exact HO_8.out⟩, ⟨by (with_reducible repeat (first | apply Kd.R_alloc | apply Kd.R_drewN | apply Kd.R_drew)); exact HO_11.out⟩, ⟨by (with_reducible repeat (first | apply Kd.R_alloc | apply Kd.R_drewN | apply Kd.R_drew)); exact HO_335000.out⟩, ⟨by (with_reducible repeat (first | apply Kd.R_alloc | apply Kd.R_drewN | apply Kd.R_drew)); exact HO_335001.out⟩, ⟨by (with_reducible repeat (first | apply Kd.R_alloc | apply Kd.R_drewN | apply Kd.R_drew)); exact HO_335002.out⟩, ⟨by (with_reducible repeat (first | apply Kd.R_alloc | apply Kd.R_drewN | apply Kd.R_drew)); exact HO_335003.out⟩, ⟨by (with_reducible repeat (first | apply Kd.S_alloc | apply Kd.S_drewN | apply Kd.S_drew)); exact HO_350000.out⟩, ⟨by (with_reducible repeat (first | apply Kd.S_alloc | apply Kd.S_drewN | apply Kd.S_drew)); exact HO_350001.out⟩, ⟨by (with_reducible repeat (first | apply Kd.R_alloc | apply Kd.R_drewN | apply Kd.R_drew)); exact HO_350002.out⟩, ⟨by (with_reducible repeat (first | refine blk_drewN ?_ _ | refine blk_drew ?_ | refine blk_alloc ?_ _)); exact BK334.out⟩, ⟨by (with_reducible repeat (first | refine blk_drewN ?_ _ | refine blk_drew ?_ | refine blk_alloc ?_ _)); exact BK349.out⟩, ⟨by repeat (first | (with_reducible first | exact HB.out | apply below_alloc | apply pw_below_drewN | apply below_drew1 | refine below_set ?_ GE334.out | refine below_set ?_ GE349.out) | exact HB.out)⟩⟩
/-- THE ONE PURE STATEMENT of letterbaglaw28_SequenceExact: yours. -/
def letterbaglaw28_SequenceExact.Pure : Prop := ∀ (l0 : List Int) (l1 : List Int) (l2 : List Int), l0.length ≤ maxLen → l0.length * 1 ≤ 140737488351232 → (∀ x ∈ l0, (Lit.int .u8 x).wf = true) → l1.length ≤ maxLen → l1.length * 1 ≤ 140737488351232 → (∀ x ∈ l1, (Lit.int .u8 x).wf = true) → l2.length ≤ maxLen → l2.length * 1 ≤ 140737488351232 → (∀ x ∈ l2, (Lit.int .u8 x).wf = true) → ∃ k, letterbaglaw28_SequenceExact.f k l0 l1 l2 = some true
theorem letterbaglaw28_SequenceExact.walk (P : letterbaglaw28_SequenceExact.Pure) (a0 : Option Addr) (len0 cap0 : Nat) (z0 : List Int) (a1 : Option Addr) (len1 cap1 : Nat) (z1 : List Int) (a2 : Option Addr) (len2 cap2 : Nat) (z2 : List Int) (w : World) (w0 : (a0 = none ∧ len0 = 0 ∧ cap0 = 0 ∧ z0 = []) ∨ ∃ x, a0 = some x ∧ len0 ≤ cap0 ∧ cap0 ≤ maxLen ∧ z0.length = cap0 ∧ (∀ i, i < z0.length → w.cell? (x.add i) = some (.int .u8 (z0.getD i 0))) ∧ ∀ n ∈ z0, (Lit.int .u8 n).wf = true) (y0 : len0 * 1 ≤ 140737488351232) (w1 : (a1 = none ∧ len1 = 0 ∧ cap1 = 0 ∧ z1 = []) ∨ ∃ x, a1 = some x ∧ len1 ≤ cap1 ∧ cap1 ≤ maxLen ∧ z1.length = cap1 ∧ (∀ i, i < z1.length → w.cell? (x.add i) = some (.int .u8 (z1.getD i 0))) ∧ ∀ n ∈ z1, (Lit.int .u8 n).wf = true) (y1 : len1 * 1 ≤ 140737488351232) (w2 : (a2 = none ∧ len2 = 0 ∧ cap2 = 0 ∧ z2 = []) ∨ ∃ x, a2 = some x ∧ len2 ≤ cap2 ∧ cap2 ≤ maxLen ∧ z2.length = cap2 ∧ (∀ i, i < z2.length → w.cell? (x.add i) = some (.int .u8 (z2.getD i 0))) ∧ ∀ n ∈ z2, (Lit.int .u8 n).wf = true) (y2 : len2 * 1 ≤ 140737488351232) :
    Calls Try.prog 4 #[.slice a0 len0 cap0, .slice a1 len1 cap1, .slice a2 len2 cap2] w fun e w' => e = .returned (.bool true) ∧ Below w.heap.size w w' := by
 obtain ⟨l0, rfl, hr0, hm0, hw0, hc0⟩ := ReadsInt.ofRowC w0
 obtain ⟨l1, rfl, hr1, hm1, hw1, hc1⟩ := ReadsInt.ofRowC w1
 obtain ⟨l2, rfl, hr2, hm2, hw2, hc2⟩ := ReadsInt.ofRowC w2
 obtain ⟨k, h⟩ := P l0 l1 l2 hm0 y0 hw0 hm1 y1 hw1 hm2 y2 hw2
 refine (letterbaglaw28_SequenceExact.calls k _ _ l0 _ _ l1 _ _ l2 true w (Kd.C_of_reads (d := (0 : Int)) (h1 := fun _ => rfl) hr0) hc0 (Kd.C_of_reads (d := (0 : Int)) (h1 := fun _ => rfl) hr1) hc1 (Kd.C_of_reads (d := (0 : Int)) (h1 := fun _ => rfl) hr2) hc2 h).mono ?_
 rintro e w' ⟨rfl, hd⟩
 exact ⟨rfl, hd⟩
end Go.Proofs.Ytbhcchcjmgfpiaa.Print
