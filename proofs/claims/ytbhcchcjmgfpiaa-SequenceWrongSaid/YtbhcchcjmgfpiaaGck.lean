-- Written by a program of this seat (the printer's forms over given functions); Lean checks it.
import Derived.Test.YtbhcchcjmgfpiaaGSr
import Derived.Test.YtbhcchcjmgfpiaaGcd
import Derived.Test.YtbhcchcjmgfpiaaGa
import Derived.Test.YtbhcchcjmgfpiaaGb
namespace Go.Proofs.Ytbhcchcjmgfpiaa.Print
open Go.RowKit Go.Proofs.YtbhcchcjmgfpiaaW.PrintWords Go.Proofs.YtbhcchcjmgfpiaaW.PrintLast Go.Proofs.YtbhcchcjmgfpiaaW.PrintMore
attribute [local go_sem] max2_int min2_int max_two min_two max_three min_three max_four min_four   -- for this text's walks alone
set_option linter.unusedVariables false
set_option linter.unusedSimpArgs false

def sequence_CheckK.T14 : Bool × List (List Nat × List Nat) := (true, [([], []), ([0], [0]), ([1], [1]), ([2, 2], [2]), ([], []), ([4], [4]), ([5], [5]), ([6, 6], [6]), ([3, 0, 1, 2, 3], [3]), ([7, 8, 0, 1, 2, 3, 4, 5, 6, 7, 8], [7])])
def sequence_CheckK.B14 : List Nat := [0, 1, 3, 7, 0, 16, 48, 112, 15, 511]
theorem sequence_CheckK.tab14 : rtab .any (opsOf Try.f25 14) = sequence_CheckK.T14 := by kernel_rfl
theorem sequence_CheckK.bits14 : waitsOk sequence_CheckK.T14.2 sequence_CheckK.B14 = true := by kernel_rfl
def sequence_CheckK.T20 : Bool × List (List Nat × List Nat) := (true, [([], []), ([0], [0]), ([1], [1]), ([2], [2]), ([3, 2], [2, 3]), ([2], [2]), ([5, 2], [2, 5]), ([2], [2]), ([7, 2], [2, 7]), ([6, 8, 2], [2, 6, 8]), ([9, 2], [2, 9]), ([10, 2], [2, 10]), ([4, 11, 2], [2, 4, 11]), ([12, 2, 2], [2, 12]), ([13], [13]), ([14, 13], [13, 14]), ([13], [13]), ([16, 13], [13, 16]), ([13], [13]), ([18, 13], [13, 18]), ([17, 19, 13], [13, 17, 19]), ([20, 13], [13, 20]), ([21, 13], [13, 21]), ([15, 22, 13], [13, 15, 22]), ([23, 13, 13], [13, 23]), ([24], [24]), ([25, 24], [24, 25]), ([24], [24]), ([27, 24], [24, 27]), ([24], [24]), ([29, 24], [24, 29]), ([28, 30, 24], [24, 28, 30]), ([31, 24], [24, 31]), ([32, 24], [24, 32]), ([26, 33, 24], [24, 26, 33]), ([24, 34, 13], [13, 24, 34]), ([13, 35, 2], [2, 13, 35]), ([2, 36], [2, 36])])
def sequence_CheckK.B20 : List Nat := [0, 1, 3, 7, 15, 7, 39, 7, 135, 487, 999, 2023, 4095, 8191, 16383, 32767, 16383, 81919, 16383, 278527, 999423, 2047999, 4145151, 8388607, 16777215, 33554431, 67108863, 33554431, 167772159, 33554431, 570425343, 2046820351, 4194303999, 8489271295, 17179869183, 34359738367, 68719476735, 137438953471]
theorem sequence_CheckK.tab20 : rtab .any (opsOf Try.f25 20) = sequence_CheckK.T20 := by kernel_rfl
theorem sequence_CheckK.bits20 : waitsOk sequence_CheckK.T20.2 sequence_CheckK.B20 = true := by kernel_rfl
def sequence_CheckK.T22 : Bool × List (List Nat × List Nat) := (true, [([], []), ([], []), ([1], [1]), ([0, 2], [0, 2]), ([3], [3]), ([], []), ([5], [5]), ([4, 6], [4, 6]), ([0, 2, 0, 1, 2, 3, 4, 5, 6, 7], [0, 2]), ([8, 7, 0, 1, 2, 3, 4, 5, 6, 7], [7, 8])])
def sequence_CheckK.B22 : List Nat := [0, 0, 2, 7, 15, 0, 32, 127, 255, 511]
theorem sequence_CheckK.tab22 : rtab .any (opsOf Try.f25 22) = sequence_CheckK.T22 := by kernel_rfl
theorem sequence_CheckK.bits22 : waitsOk sequence_CheckK.T22.2 sequence_CheckK.B22 = true := by kernel_rfl
def sequence_CheckK.T23 : Bool × List (List Nat × List Nat) := (true, [([], []), ([], []), ([1], [1]), ([0, 2], [0, 2]), ([3], [3]), ([], []), ([5], [5]), ([4, 6], [4, 6]), ([0, 2, 0, 1, 2, 3, 4, 5, 6, 7], [0, 2]), ([8, 7, 0, 1, 2, 3, 4, 5, 6, 7], [7, 8])])
def sequence_CheckK.B23 : List Nat := [0, 0, 2, 7, 15, 0, 32, 127, 255, 511]
theorem sequence_CheckK.tab23 : rtab .any (opsOf Try.f25 23) = sequence_CheckK.T23 := by kernel_rfl
theorem sequence_CheckK.bits23 : waitsOk sequence_CheckK.T23.2 sequence_CheckK.B23 = true := by kernel_rfl
def sequence_CheckK.T30 : Bool × List (List Nat × List Nat) := (true, [([], []), ([0], [0]), ([], []), ([1, 2], [1, 2]), ([3], [3]), ([], []), ([], []), ([5, 6], [5, 6]), ([7], [7]), ([4, 8], [4, 8]), ([9], [9]), ([10], [10]), ([11, 10], [10, 11]), ([10], [10]), ([12, 13, 10], [10, 12, 13]), ([14, 10], [10, 14]), ([10], [10]), ([10], [10]), ([16, 17, 10], [10, 16, 17]), ([18, 10], [10, 18]), ([15, 19, 10], [10, 15, 19]), ([10, 20], [10, 20])])
def sequence_CheckK.B30 : List Nat := [0, 1, 0, 7, 15, 0, 0, 96, 224, 511, 1023, 2047, 4095, 2047, 16383, 32767, 2047, 2047, 198655, 460799, 1048575, 2097151]
theorem sequence_CheckK.tab30 : rtab .any (opsOf Try.f25 30) = sequence_CheckK.T30 := by kernel_rfl
theorem sequence_CheckK.bits30 : waitsOk sequence_CheckK.T30.2 sequence_CheckK.B30 = true := by kernel_rfl
def sequence_CheckK.T36 : Bool × List (List Nat × List Nat) := (true, [([], []), ([], []), ([0, 1], [0, 1]), ([2], [2]), ([], []), ([], []), ([4, 5], [4, 5]), ([6], [6]), ([3, 7], [3, 7]), ([], []), ([8, 9], [8, 9])])
def sequence_CheckK.B36 : List Nat := [0, 0, 3, 7, 0, 0, 48, 112, 255, 0, 1023]
theorem sequence_CheckK.tab36 : rtab .any (opsOf Try.f25 36) = sequence_CheckK.T36 := by kernel_rfl
theorem sequence_CheckK.bits36 : waitsOk sequence_CheckK.T36.2 sequence_CheckK.B36 = true := by kernel_rfl
set_option maxHeartbeats 8000000 in
set_option maxRecDepth 100000 in
theorem sequence_CheckK.calls (k : Nat) (A0_0 : Option Addr) (c0_0 : Nat) (l0_0 : List Int) (A0_1 : Option Addr) (c0_1 : Nat) (l0_1 : List (S60)) (A0_2 : Option Addr) (c0_2 : Nat) (l0_2 : List Int) (A0_3 : Option Addr) (c0_3 : Nat) (l0_3 : List Int) (r1 : Int) (r2 : Int) (w : World) (hr0_0 : Kd.C (Kd.int .i64) w A0_0 l0_0.length l0_0) (hc0_0 : l0_0.length ≤ c0_0) (hr0_1 : Kd.C k60 w A0_1 l0_1.length l0_1) (hc0_1 : l0_1.length ≤ c0_1) (hr0_2 : Kd.C (Kd.int .i64) w A0_2 l0_2.length l0_2) (hc0_2 : l0_2.length ≤ c0_2) (hr0_3 : Kd.C (Kd.int .i64) w A0_3 l0_3.length l0_3) (hc0_3 : l0_3.length ≤ c0_3) (h : sequence_CheckK.f k l0_0 l0_1 l0_2 l0_3 = some (r1, r2)) :
    Calls Try.prog 25 #[.agg #[.slice A0_0 l0_0.length c0_0, .slice A0_1 l0_1.length c0_1, .slice A0_2 l0_2.length c0_2, .slice A0_3 l0_3.length c0_3]] w fun e w' => e = .returned (.tuple #[.int .i64 r1, .int .i64 r2]) ∧ Below w.heap.size w w' := by
 have hu38 := Try.underlying38; have hu60 := Try.underlying60; have hu27 := Try.underlying27
 have HR0_0 := Aside0.mk hr0_0
 have HC0_0 := Aside0.mk hc0_0
 clear hr0_0 hc0_0
 have HR0_1 := Aside0.mk hr0_1
 have HC0_1 := Aside0.mk hc0_1
 clear hr0_1 hc0_1
 have HR0_2 := Aside0.mk hr0_2
 have HC0_2 := Aside0.mk hc0_2
 clear hr0_2 hc0_2
 have HR0_3 := Aside0.mk hr0_3
 have HC0_3 := Aside0.mk hc0_3
 clear hr0_3 hc0_3
 have HB := Aside0.mk (Below.refl w.heap.size w)
 have H : ((sequence_machine.f l0_0).bind fun t182 => (if t182 = true then (if (l0_1.length : Int) > 1000 then (some (0, 5)) else (sequence_CheckK.l0 k ([] : List (S27)) l0_1 (l0_1.length : Int) 0 l0_0 l0_1 l0_2 l0_3)) else (some (0, 280)))) = some (r1, r2) := h
 clear h
 replace H := Option.bind_eq_some_iff.mp H
 obtain ⟨t182, A20, H⟩ := H
 replace H : (if t182 = true then (if (l0_1.length : Int) > 1000 then (some (0, 5)) else (sequence_CheckK.l0 k ([] : List (S27)) l0_1 (l0_1.length : Int) 0 l0_0 l0_1 l0_2 l0_3)) else (some (0, 280))) = some (r1, r2) := H
 have A2 := Aside0.mk A20
 clear A20
 by_cases c3 : t182 = true
 rotate_left
 ·replace c3 := Bool.eq_false_iff.mpr c3
  subst c3
  have H1 : (some (0, 280)) = some (r1, r2) := by rw [if_neg (show ¬ (false = true) by decide)] at H; exact H
  clear H; have H := H1; clear H1
  simp only [Option.some.injEq, Prod.mk.injEq] at H
  obtain ⟨rfl, rfl⟩ := H
  go_enter Try.func25, Try.ntmps25
  go_wp2_with (first | ((with_reducible refine gate_dst (N := 1) rfl ?_); (try (refine gate_guard (by rfl) ?_; dsimp only)); refine box_event ?hg (N := 1) ?hd (cs := #[.slice A0_0 l0_0.length c0_0, .slice A0_1 l0_1.length c0_1, .slice A0_2 l0_2.length c0_2, .slice A0_3 l0_3.length c0_3]) (t := 38) ?hr ?_; (case hd => rfl); (case hg => rfl); (case hr => first | (go_simp; done) | (go_simp; rfl)); intro gb181 hg w135 hbox hb; have n0_ := Aside0.mk (below_step (by repeat (first | (with_reducible first | exact HB.out | apply below_alloc | apply pw_below_drewN | apply below_drew1) | exact HB.out)) hb); have n1_ := Aside0.mk (hbox); have n2_ := Aside0.mk ((by rw [hg]; exact (below_size (by repeat (first | (with_reducible first | exact HB.out | apply below_alloc | apply pw_below_drewN | apply below_drew1) | exact HB.out))) : w.heap.size ≤ gb181)); have n3_ := Aside0.mk ((by rw [hg]; exact (below_size (by repeat (first | (with_reducible first | exact HB.out | apply below_alloc | apply pw_below_drewN | apply below_drew1) | exact HB.out))) : w.heap.size ≤ gb181)); clear HB; have HB := n0_; have BK181 := n1_; have GW181 := n2_; have GE181 := n3_; clear n0_ n1_ n2_ n3_; clear hb hbox hg; have hcz136_0 : w135.cell? ⟨gb181, 0, none⟩ = some (.slice A0_0 l0_0.length c0_0) := (blk_cell BK181.out 0).trans rfl; have hcz136_1 : w135.cell? ⟨gb181, 1, none⟩ = some (.slice A0_1 l0_1.length c0_1) := (blk_cell BK181.out 1).trans rfl; have hcz136_2 : w135.cell? ⟨gb181, 2, none⟩ = some (.slice A0_2 l0_2.length c0_2) := (blk_cell BK181.out 2).trans rfl; have hcz136_3 : w135.cell? ⟨gb181, 3, none⟩ = some (.slice A0_3 l0_3.length c0_3) := (blk_cell BK181.out 3).trans rfl; have hfz136_0 := blk_frozen BK181.out 0; have hfz136_1 := blk_frozen BK181.out 1; have hfz136_2 := blk_frozen BK181.out 2; have hfz136_3 := blk_frozen BK181.out 3) | ((with_reducible refine gate_callee (f := 36) rfl ?_); refine goesL_ (some 17) rfl rfl Try.func36 (by kernel_rfl) rfl #[.slice A0_0 l0_0.length c0_0] rfl (by (try simp only [List.map_toArray, List.map_cons, List.map_nil]); first | done | rfl | (simp only [List.length_drop, List.length_take]; rfl)) ?_; (with_reducible refine (sequence_machine.calls _ _ l0_0 false _ ?side1 ?side2 A2.out).mono ?_); (case side1 => repeat (first | exact (Kd.C_below HR0_0.out HB.out) | (with_reducible refine Kd.C_alloc ?_ _) | (with_reducible refine Kd.C_drewN ?_ _) | (with_reducible refine Kd.C_drew ?_))); (case side2 => exact HC0_0.out); rintro e w' ⟨rfl, ⟨nd, rfl⟩⟩; refine ⟨_, rfl, ?_⟩))
  go_ret2
  exact ⟨by first | rfl | (simp [errW_none, errW_some] <;> rfl) | (simp [*, errW_none, errW_some] <;> rfl), by repeat (first | (with_reducible first | exact HB.out | apply below_alloc | apply pw_below_drewN | apply below_drew1 | refine below_set ?_ GE181.out) | exact HB.out)⟩
 subst c3
 have H1 : (if (l0_1.length : Int) > 1000 then (some (0, 5)) else (sequence_CheckK.l0 k ([] : List (S27)) l0_1 (l0_1.length : Int) 0 l0_0 l0_1 l0_2 l0_3)) = some (r1, r2) := by rw [if_pos rfl] at H; exact H
 clear H; have H := H1; clear H1
 by_cases c4 : (l0_1.length : Int) > 1000
 ·rw [if_pos c4] at H
  have c4b0 : decide (1000 < (l0_1.length : Int)) = true := decide_eq_true c4
  have c4b1 : decide (1000 < l0_1.length) = true := decide_eq_true (by omega)
  clear c4
  simp only [Option.some.injEq, Prod.mk.injEq] at H
  obtain ⟨rfl, rfl⟩ := H
  go_enter Try.func25, Try.ntmps25
  go_wp2_with (first | ((with_reducible refine gate_dst (N := 1) rfl ?_); (try (refine gate_guard (by rfl) ?_; dsimp only)); refine box_event ?hg (N := 1) ?hd (cs := #[.slice A0_0 l0_0.length c0_0, .slice A0_1 l0_1.length c0_1, .slice A0_2 l0_2.length c0_2, .slice A0_3 l0_3.length c0_3]) (t := 38) ?hr ?_; (case hd => rfl); (case hg => rfl); (case hr => first | (go_simp; done) | (go_simp; rfl)); intro gb181 hg w5 hbox hb; have n0_ := Aside0.mk (below_step (by repeat (first | (with_reducible first | exact HB.out | apply below_alloc | apply pw_below_drewN | apply below_drew1) | exact HB.out)) hb); have n1_ := Aside0.mk (hbox); have n2_ := Aside0.mk ((by rw [hg]; exact (below_size (by repeat (first | (with_reducible first | exact HB.out | apply below_alloc | apply pw_below_drewN | apply below_drew1) | exact HB.out))) : w.heap.size ≤ gb181)); have n3_ := Aside0.mk ((by rw [hg]; exact (below_size (by repeat (first | (with_reducible first | exact HB.out | apply below_alloc | apply pw_below_drewN | apply below_drew1) | exact HB.out))) : w.heap.size ≤ gb181)); clear HB; have HB := n0_; have BK181 := n1_; have GW181 := n2_; have GE181 := n3_; clear n0_ n1_ n2_ n3_; clear hb hbox hg; have hcz6_0 : w5.cell? ⟨gb181, 0, none⟩ = some (.slice A0_0 l0_0.length c0_0) := (blk_cell BK181.out 0).trans rfl; have hcz6_1 : w5.cell? ⟨gb181, 1, none⟩ = some (.slice A0_1 l0_1.length c0_1) := (blk_cell BK181.out 1).trans rfl; have hcz6_2 : w5.cell? ⟨gb181, 2, none⟩ = some (.slice A0_2 l0_2.length c0_2) := (blk_cell BK181.out 2).trans rfl; have hcz6_3 : w5.cell? ⟨gb181, 3, none⟩ = some (.slice A0_3 l0_3.length c0_3) := (blk_cell BK181.out 3).trans rfl; have hfz6_0 := blk_frozen BK181.out 0; have hfz6_1 := blk_frozen BK181.out 1; have hfz6_2 := blk_frozen BK181.out 2; have hfz6_3 := blk_frozen BK181.out 3) | ((with_reducible refine gate_callee (f := 36) rfl ?_); refine goesL_ (some 17) rfl rfl Try.func36 (by kernel_rfl) rfl #[.slice A0_0 l0_0.length c0_0] rfl (by (try simp only [List.map_toArray, List.map_cons, List.map_nil]); first | done | rfl | (simp only [List.length_drop, List.length_take]; rfl)) ?_; (with_reducible refine (sequence_machine.calls _ _ l0_0 true _ ?side1 ?side2 A2.out).mono ?_); (case side1 => repeat (first | exact (Kd.C_below HR0_0.out HB.out) | (with_reducible refine Kd.C_alloc ?_ _) | (with_reducible refine Kd.C_drewN ?_ _) | (with_reducible refine Kd.C_drew ?_))); (case side2 => exact HC0_0.out); rintro e w' ⟨rfl, ⟨nd, rfl⟩⟩; refine ⟨_, rfl, ?_⟩))
  go_ret2
  exact ⟨by first | rfl | (simp [errW_none, errW_some] <;> rfl) | (simp [*, errW_none, errW_some] <;> rfl), by repeat (first | (with_reducible first | exact HB.out | apply below_alloc | apply pw_below_drewN | apply below_drew1 | refine below_set ?_ GE181.out) | exact HB.out)⟩
 rw [if_neg c4] at H
 have c4b0 : decide (1000 < (l0_1.length : Int)) = false := decide_eq_false c4
 have c4b1 : decide (1000 < l0_1.length) = false := decide_eq_false (by omega)
 clear c4
 have H' := Aside0.mk H
 clear H
 go_enter Try.func25, Try.ntmps25
 go_wp2_with (first | ((with_reducible refine gate_dst (N := 1) rfl ?_); (try (refine gate_guard (by rfl) ?_; dsimp only)); refine box_event ?hg (N := 1) ?hd (cs := #[.slice A0_0 l0_0.length c0_0, .slice A0_1 l0_1.length c0_1, .slice A0_2 l0_2.length c0_2, .slice A0_3 l0_3.length c0_3]) (t := 38) ?hr ?_; (case hd => rfl); (case hg => rfl); (case hr => first | (go_simp; done) | (go_simp; rfl)); intro gb181 hg w7 hbox hb; have n0_ := Aside0.mk (below_step (by repeat (first | (with_reducible first | exact HB.out | apply below_alloc | apply pw_below_drewN | apply below_drew1) | exact HB.out)) hb); have n1_ := Aside0.mk (hbox); have n2_ := Aside0.mk ((by rw [hg]; exact (below_size (by repeat (first | (with_reducible first | exact HB.out | apply below_alloc | apply pw_below_drewN | apply below_drew1) | exact HB.out))) : w.heap.size ≤ gb181)); have n3_ := Aside0.mk ((by rw [hg]; exact (below_size (by repeat (first | (with_reducible first | exact HB.out | apply below_alloc | apply pw_below_drewN | apply below_drew1) | exact HB.out))) : w.heap.size ≤ gb181)); clear HB; have HB := n0_; have BK181 := n1_; have GW181 := n2_; have GE181 := n3_; clear n0_ n1_ n2_ n3_; clear hb hbox hg; have hcz8_0 : w7.cell? ⟨gb181, 0, none⟩ = some (.slice A0_0 l0_0.length c0_0) := (blk_cell BK181.out 0).trans rfl; have hcz8_1 : w7.cell? ⟨gb181, 1, none⟩ = some (.slice A0_1 l0_1.length c0_1) := (blk_cell BK181.out 1).trans rfl; have hcz8_2 : w7.cell? ⟨gb181, 2, none⟩ = some (.slice A0_2 l0_2.length c0_2) := (blk_cell BK181.out 2).trans rfl; have hcz8_3 : w7.cell? ⟨gb181, 3, none⟩ = some (.slice A0_3 l0_3.length c0_3) := (blk_cell BK181.out 3).trans rfl; have hfz8_0 := blk_frozen BK181.out 0; have hfz8_1 := blk_frozen BK181.out 1; have hfz8_2 := blk_frozen BK181.out 2; have hfz8_3 := blk_frozen BK181.out 3) | ((with_reducible refine gate_callee (f := 36) rfl ?_); refine goesL_ (some 17) rfl rfl Try.func36 (by kernel_rfl) rfl #[.slice A0_0 l0_0.length c0_0] rfl (by (try simp only [List.map_toArray, List.map_cons, List.map_nil]); first | done | rfl | (simp only [List.length_drop, List.length_take]; rfl)) ?_; (with_reducible refine (sequence_machine.calls _ _ l0_0 true _ ?side1 ?side2 A2.out).mono ?_); (case side1 => repeat (first | exact (Kd.C_below HR0_0.out HB.out) | (with_reducible refine Kd.C_alloc ?_ _) | (with_reducible refine Kd.C_drewN ?_ _) | (with_reducible refine Kd.C_drew ?_))); (case side2 => exact HC0_0.out); rintro e w' ⟨rfl, ⟨nd, rfl⟩⟩; refine ⟨_, rfl, ?_⟩))
 go_loopg [4, 26] k (fun kq v4 v26 w' => ∃ (x4_1 : List (S27)) (x26_1 : Int), v26 = .int .i64 x26_1 ∧ Aside0 (sequence_CheckK.l0 kq x4_1 l0_1 (l0_1.length : Int) x26_1 l0_0 l0_1 l0_2 l0_3 = some (r1, r2)) ∧ Aside0 (kq ≤ k) ∧ Aside0 (Kd.R k27 27 w' w.heap.size (fun _ => True) v4 x4_1) ∧ Aside0 (w'.heap[gb181]? = some (.cells #[(.slice A0_0 l0_0.length c0_0), (.slice A0_1 l0_1.length c0_1), (.slice A0_2 l0_2.length c0_2), (.slice A0_3 l0_3.length c0_3)] 38 (0, 0))) ∧ Aside0 (Below w.heap.size w w'))
 case atStart => exact ⟨(([] : List (S27))), (0), (by first | rfl | (simp; done) | (simp [*]; done)), H', ⟨Nat.le_refl _⟩, ⟨by first | exact Kd.R_nil _ _ _ _ _ | exact Kd.N_nil _ _ _ _ _ | exact Kd.V_nil _ _ _ _ _ | exact Kd.Q_nil _ _ _ _ _ | exact Kd.S_nil _ _ _ _ _⟩, ⟨by (with_reducible repeat (first | refine blk_drewN ?_ _ | refine blk_drew ?_ | refine blk_alloc ?_ _)); exact BK181.out⟩, ⟨by repeat (first | (with_reducible first | exact HB.out | apply below_alloc | apply pw_below_drewN | apply below_drew1 | refine below_set ?_ GE181.out) | exact HB.out)⟩⟩
 case round =>
  clear H'; (try clear c2); (try clear p2); (try clear c3); (try clear c4); (try clear c4b0); (try clear c4b1); (try clear hcz6_0); (try clear hcz6_1); (try clear hcz6_2); (try clear hcz6_3); (try clear hcz8_0); (try clear hcz8_1); (try clear hcz8_2); (try clear hcz8_3); (try clear hfz6_0); (try clear hfz6_1); (try clear hfz6_2); (try clear hfz6_3); (try clear hfz8_0); (try clear hfz8_1); (try clear hfz8_2); (try clear hfz8_3)
  obtain ⟨x4_1, x26_1, rfl, HA, HK1, HO_4, BK181, HB⟩ := hrel
  cases gk with
  | zero => exact absurd HA.out (by simp [sequence_CheckK.l0])
  | succ k1 =>
   have H := HA.out; clear HA
   simp only [sequence_CheckK.l0] at H
   by_cases c9 : x26_1 < (l0_1.length : Int)
   ·rw [if_pos c9] at H
    have c9b0 : decide (x26_1 < (l0_1.length : Int)) = true := decide_eq_true c9
    clear c9
    by_cases c10 : 0 ≤ x26_1
    rotate_left
    ·rw [if_neg c10] at H
     exact absurd H (by simp)
    rw [if_pos c10] at H
    have c10b0 : decide (0 ≤ x26_1) = true := decide_eq_true c10
    clear c10
    by_cases c11 : x26_1 < (l0_1.length : Int)
    rotate_left
    ·rw [if_neg c11] at H
     exact absurd H (by simp)
    rw [if_pos c11] at H
    have c11b0 : decide (x26_1 < (l0_1.length : Int)) = true := decide_eq_true c11
    clear c11
    by_cases c12 : x4_1.length < 8796093022208
    rotate_left
    ·rw [if_neg c12] at H
     exact absurd H (by simp)
    rw [if_pos c12] at H
    have LMc12 := Aside0.mk c12
    clear c12
    obtain ⟨y185, hy185⟩ : ∃ y_ : List (S27), y_ = (x4_1 ++ [(⟨(rd_T60 l0_1 x26_1).f0, (rd_T60 l0_1 x26_1).f1⟩ : S27)]) := ⟨_, rfl⟩
    replace H : (sequence_CheckK.l0 k1 y185 l0_1 (l0_1.length : Int) (wrap64 (x26_1 + 1)) l0_0 l0_1 l0_2 l0_3) = some (r1, r2) := by first | (rw [hy185]; with_reducible exact H) | (have H2_ := (Option.bind_some _ _).symm.trans H; rw [hy185]; with_reducible exact H2_) | (have H2_ := (Option.bind_some _ _).symm.trans H; with_reducible exact H2_) | with_reducible exact H | (rw [hy185]; exact H) | exact H
    have Ny185 := Aside0.mk hy185
    clear hy185
    have H' := Aside0.mk H
    clear H
    have p183 : 0 ≤ (x26_1 : Int) := of_decide_eq_true (by first | (with_reducible assumption) | assumption)
    have q183 : x26_1 < (l0_1.length : Int) := of_decide_eq_true (by first | (with_reducible assumption) | assumption)
    obtain ⟨ad183, e183, hx183_0, hx183_1, hx183_2, hx183_3⟩ := at_T60 HR0_1.out x26_1 p183 q183
    cases e183
    replace hx183_0 := (HB.out.cell (World.block_lt_of_cell? w _ hx183_0)).trans hx183_0
    replace hx183_1 := (HB.out.cell (World.block_lt_of_cell? w _ hx183_1)).trans hx183_1
    replace hx183_2 := (HB.out.cell (World.block_lt_of_cell? w _ hx183_2)).trans hx183_2
    replace hx183_3 := (HB.out.cell (World.block_lt_of_cell? w _ hx183_3)).trans hx183_3
    replace p183 := eq_true p183
    replace q183 := eq_true q183
    go_wp2_with (first | ((with_reducible refine gate_dst (N := 6) rfl ?_); (try (refine gate_guard (by rfl) ?_; dsimp only)); refine box_event ?hg (N := 6) ?hd (cs := #[.int .i64 0, .int .i64 0, .int .i64 0, .int .i64 0]) (t := 60) ?hr ?_; (case hd => rfl); (case hg => rfl); (case hr => first | (go_simp; done) | (go_simp; rfl)); intro gb184 hg w13 hbox hb; have n0_ := Aside0.mk (Kd.R_below (by (with_reducible repeat (first | apply Kd.R_alloc | apply Kd.R_drewN | apply Kd.R_drew)); exact HO_4.out) hb); have n1_ := Aside0.mk (blk_below (g := gb181) (o := .cells #[.slice A0_0 l0_0.length c0_0, .slice (some ad183) l0_1.length c0_1, .slice A0_2 l0_2.length c0_2, .slice A0_3 l0_3.length c0_3] 38 (0, 0)) (by (with_reducible repeat (first | refine blk_drewN ?_ _ | refine blk_drew ?_ | refine blk_alloc ?_ _)); exact BK181.out) hb); have n2_ := Aside0.mk (below_step (by repeat (first | (with_reducible first | exact HB.out | apply below_alloc | apply pw_below_drewN | apply below_drew1 | refine below_set ?_ GE181.out) | exact HB.out)) hb); have n3_ := Aside0.mk (hbox); have n4_ := Aside0.mk ((by rw [hg]; exact (below_size (by repeat (first | (with_reducible first | exact HB.out | apply below_alloc | apply pw_below_drewN | apply below_drew1 | refine below_set ?_ GE181.out) | exact HB.out))) : w.heap.size ≤ gb184)); have n5_ := Aside0.mk ((by rw [hg]; exact (below_size (by repeat (first | (with_reducible first | exact HB.out | apply below_alloc | apply pw_below_drewN | apply below_drew1 | refine below_set ?_ GE181.out) | exact HB.out))) : w.heap.size ≤ gb184)); have n6_ := Aside0.mk ((by rw [hg]; exact Nat.ne_of_lt (blk_lt (g := gb181) (o := .cells #[.slice A0_0 l0_0.length c0_0, .slice (some ad183) l0_1.length c0_1, .slice A0_2 l0_2.length c0_2, .slice A0_3 l0_3.length c0_3] 38 (0, 0)) (by (with_reducible repeat (first | refine blk_drewN ?_ _ | refine blk_drew ?_ | refine blk_alloc ?_ _)); exact BK181.out)) : gb181 ≠ gb184)); have n7_ := Aside0.mk ((by rw [hg]; exact Nat.ne_of_gt (blk_lt (g := gb181) (o := .cells #[.slice A0_0 l0_0.length c0_0, .slice (some ad183) l0_1.length c0_1, .slice A0_2 l0_2.length c0_2, .slice A0_3 l0_3.length c0_3] 38 (0, 0)) (by (with_reducible repeat (first | refine blk_drewN ?_ _ | refine blk_drew ?_ | refine blk_alloc ?_ _)); exact BK181.out)) : gb184 ≠ gb181)); clear HO_4; clear BK181; clear HB; have HO_4 := n0_; have BK181 := n1_; have HB := n2_; have BK184 := n3_; have GW184 := n4_; have GE184 := n5_; have NB181_184 := n6_; have NB184_181 := n7_; clear n0_ n1_ n2_ n3_ n4_ n5_ n6_ n7_; clear hb hbox hg; have hnb14 := NB184_181.out; have hnc14 := NB181_184.out; have hcz15_0 : w13.cell? ⟨gb184, 0, none⟩ = some (.int .i64 0) := (blk_cell BK184.out 0).trans rfl; have hcz15_1 : w13.cell? ⟨gb184, 1, none⟩ = some (.int .i64 0) := (blk_cell BK184.out 1).trans rfl; have hcz15_2 : w13.cell? ⟨gb184, 2, none⟩ = some (.int .i64 0) := (blk_cell BK184.out 2).trans rfl; have hcz15_3 : w13.cell? ⟨gb184, 3, none⟩ = some (.int .i64 0) := (blk_cell BK184.out 3).trans rfl; have hfz15_0 := blk_frozen BK184.out 0; have hfz15_1 := blk_frozen BK184.out 1; have hfz15_2 := blk_frozen BK184.out 2; have hfz15_3 := blk_frozen BK184.out 3) | ((with_reducible refine gate_builtin (b := .append) (xs := #[.tmp 30, .tmp 36]) rfl ?_); (try (refine gate_guard (by rfl) ?_; dsimp only)); at_builtin; refine Kd.R_append k27 (w0 := w) w.heap.size rfl (.tmp 30) (.tmp 36) 28 27 (.agg #[(.int .i64 0), (.int .i64 0)]) 16 rfl Try.underlying28 info27 rfl (by decide) (by omega) u4 x4_1 (⟨(rd_T60 l0_1 x26_1).f0, (rd_T60 l0_1 x26_1).f1⟩ : S27) [.int .i64 ((rd_T60 l0_1 x26_1).f0), .int .i64 ((rd_T60 l0_1 x26_1).f1)] (fun _ => True) (fun _ => False) rfl (by first | (go_simp; done) | (go_simp; rfl)) ?aP (fun _ hk => hk.elim) ?aF ?aO ?aB ?aS ?aL ?_; (case aP => exact k27_mkM _ _ _ (⟨(rd_T60 l0_1 x26_1).f0, (rd_T60 l0_1 x26_1).f1⟩ : S27)); (case aB => exact (by repeat (first | (with_reducible first | exact HB.out | apply below_alloc | apply pw_below_drewN | apply below_drew1 | refine below_set ?_ GE181.out | refine below_set ?_ GE184.out) | exact HB.out))); (case aF => exact (fun _ _ => trivial)); (case aO => exact (by (with_reducible repeat (first | apply Kd.R_alloc | apply Kd.R_drewN | apply Kd.R_drew)); exact Kd.R_mono (Kd.R_far (p := ⟨gb184, 3, none⟩) (Kd.R_far (p := ⟨gb184, 2, none⟩) (Kd.R_far (p := ⟨gb184, 1, none⟩) (Kd.R_far (p := ⟨gb184, 0, none⟩) (Kd.R_types HO_4.out BK184.out (by decide)) (fun _ hk => hk.2) (.int .i64 ((rd_T60 l0_1 x26_1).f0))) (fun _ hk => hk.2) (.int .i64 ((rd_T60 l0_1 x26_1).f1))) (fun _ hk => hk.2) (.int .i64 ((rd_T60 l0_1 x26_1).f2))) (fun _ hk => hk.2) (.int .i64 ((rd_T60 l0_1 x26_1).f3))) (fun _ hk => trivial))); (case aS => exact (below_size (by repeat (first | (with_reducible first | exact HB.out | apply below_alloc | apply pw_below_drewN | apply below_drew1 | refine below_set ?_ GE181.out | refine below_set ?_ GE184.out) | exact HB.out)))); (case aL => have := LMc12.out; omega); intro v186 w16 ho hb hg hat; rw [← Ny185.out] at ho; have n0_ := Aside0.mk (blk_grown (g := gb181) (o := .cells #[.slice A0_0 l0_0.length c0_0, .slice (some ad183) l0_1.length c0_1, .slice A0_2 l0_2.length c0_2, .slice A0_3 l0_3.length c0_3] 38 (0, 0)) (by (with_reducible repeat (first | refine blk_drewN ?_ _ | refine blk_drew ?_ | refine blk_alloc ?_ _)); refine blk_far ?_ NB181_184.out _; (with_reducible repeat (first | refine blk_drewN ?_ _ | refine blk_drew ?_ | refine blk_alloc ?_ _)); refine blk_far ?_ NB181_184.out _; (with_reducible repeat (first | refine blk_drewN ?_ _ | refine blk_drew ?_ | refine blk_alloc ?_ _)); refine blk_far ?_ NB181_184.out _; (with_reducible repeat (first | refine blk_drewN ?_ _ | refine blk_drew ?_ | refine blk_alloc ?_ _)); refine blk_far ?_ NB181_184.out _; (with_reducible repeat (first | refine blk_drewN ?_ _ | refine blk_drew ?_ | refine blk_alloc ?_ _)); exact BK181.out) hg (Kd.R_ne HO_4.out BK181.out (by decide))); have n1_ := Aside0.mk (blk_grown (g := gb184) (o := .cells #[.int .i64 ((rd_T60 l0_1 x26_1).f0), .int .i64 ((rd_T60 l0_1 x26_1).f1), .int .i64 ((rd_T60 l0_1 x26_1).f2), .int .i64 ((rd_T60 l0_1 x26_1).f3)] 60 (0, 0)) (by (with_reducible repeat (first | refine blk_drewN ?_ _ | refine blk_drew ?_ | refine blk_alloc ?_ _)); refine blk_put (cs := #[.int .i64 ((rd_T60 l0_1 x26_1).f0), .int .i64 ((rd_T60 l0_1 x26_1).f1), .int .i64 ((rd_T60 l0_1 x26_1).f2), .int .i64 0]) ?_ 3 _ rfl; (with_reducible repeat (first | refine blk_drewN ?_ _ | refine blk_drew ?_ | refine blk_alloc ?_ _)); refine blk_put (cs := #[.int .i64 ((rd_T60 l0_1 x26_1).f0), .int .i64 ((rd_T60 l0_1 x26_1).f1), .int .i64 0, .int .i64 0]) ?_ 2 _ rfl; (with_reducible repeat (first | refine blk_drewN ?_ _ | refine blk_drew ?_ | refine blk_alloc ?_ _)); refine blk_put (cs := #[.int .i64 ((rd_T60 l0_1 x26_1).f0), .int .i64 0, .int .i64 0, .int .i64 0]) ?_ 1 _ rfl; (with_reducible repeat (first | refine blk_drewN ?_ _ | refine blk_drew ?_ | refine blk_alloc ?_ _)); refine blk_put (cs := #[.int .i64 0, .int .i64 0, .int .i64 0, .int .i64 0]) ?_ 0 _ rfl; (with_reducible repeat (first | refine blk_drewN ?_ _ | refine blk_drew ?_ | refine blk_alloc ?_ _)); exact BK184.out) hg (Kd.R_ne HO_4.out BK184.out (by decide))); have n2_ := Aside0.mk (hb); have n3_ := Aside0.mk (ho); clear BK181; clear BK184; clear HB; clear HO_4; have BK181 := n0_; have BK184 := n1_; have HB := n2_; have HO187 := n3_; clear n0_ n1_ n2_ n3_; clear ho hb hg hat))
    go_roundg k1
    case measure => have := HK1.out; omega
    case rel => exact ⟨(y185), (wrap64 (x26_1 + 1)), (by first | rfl | (simp; done) | (simp [*]; done)), H', ⟨by have := HK1.out; omega⟩, ⟨by (with_reducible repeat (first | apply Kd.R_alloc | apply Kd.R_drewN | apply Kd.R_drew)); exact HO187.out⟩, ⟨by (with_reducible repeat (first | refine blk_drewN ?_ _ | refine blk_drew ?_ | refine blk_alloc ?_ _)); exact BK181.out⟩, ⟨by repeat (first | (with_reducible first | exact HB.out | apply below_alloc | apply pw_below_drewN | apply below_drew1 | refine below_set ?_ GE181.out | refine below_set ?_ GE184.out) | exact HB.out)⟩⟩
   rw [if_neg c9] at H
   have c9b0 : decide (x26_1 < (l0_1.length : Int)) = false := decide_eq_false c9
   clear c9
   replace H := Option.bind_eq_some_iff.mp H
   obtain ⟨t188, A170, H⟩ := H
   replace H : (if t188 ≥ 0 then (some (t188, 281)) else (if 0 ≤ (l0_0.length : Int) then (if ((l0_0.length : Int) : Int).toNat ≤ 35184372088832 then (sequence_CheckK.l1 k1 (List.replicate ((l0_0.length : Int) : Int).toNat 0) (List.replicate ((l0_0.length : Int) : Int).toNat 0) l0_1 (l0_1.length : Int) 0 l0_0 l0_1 l0_2 l0_3) else (none)) else (none))) = some (r1, r2) := H
   have A17 := Aside0.mk A170
   clear A170
   by_cases c18 : t188 ≥ 0
   ·rw [if_pos c18] at H
    have c18b0 : decide (0 ≤ t188) = true := decide_eq_true c18
    clear c18
    simp only [Option.some.injEq, Prod.mk.injEq] at H
    obtain ⟨rfl, rfl⟩ := H
    obtain ⟨Ao19, co19, eo19⟩ := Kd.R_slice HO_4.out
    subst eo19
    go_wp2_with (first | ((with_reducible refine gate_callee (f := 37) rfl ?_); refine goesL_ (some 40) rfl rfl Try.func37 (by kernel_rfl) rfl #[.slice Ao19 x4_1.length co19] rfl (by (try simp only [List.map_toArray, List.map_cons, List.map_nil]); first | done | rfl | (simp only [List.length_drop, List.length_take]; rfl)) ?_; (with_reducible refine (sequence_wrong.calls _ _ x4_1 t188 _ ?side1 ?side2 A17.out).mono ?_); (case side1 => repeat (first | exact (Kd.R_reads' HO_4.out).2.2 | (with_reducible refine Kd.C_alloc ?_ _) | (with_reducible refine Kd.C_drewN ?_ _) | (with_reducible refine Kd.C_drew ?_))); (case side2 => exact (Kd.R_reads' HO_4.out).2.1); rintro e w20 ⟨rfl, hb⟩; refine ⟨_, rfl, ?_⟩; have n0_ := Aside0.mk (Kd.R_below (by (with_reducible repeat (first | apply Kd.R_alloc | apply Kd.R_drewN | apply Kd.R_drew)); exact HO_4.out) hb); have n1_ := Aside0.mk (blk_below (g := gb181) (o := .cells #[.slice A0_0 l0_0.length c0_0, .slice A0_1 l0_1.length c0_1, .slice A0_2 l0_2.length c0_2, .slice A0_3 l0_3.length c0_3] 38 (0, 0)) (by (with_reducible repeat (first | refine blk_drewN ?_ _ | refine blk_drew ?_ | refine blk_alloc ?_ _)); exact BK181.out) hb); have n2_ := Aside0.mk (below_step (by repeat (first | (with_reducible first | exact HB.out | apply below_alloc | apply pw_below_drewN | apply below_drew1 | refine below_set ?_ GE181.out) | exact HB.out)) hb); clear HO_4; clear BK181; clear HB; have HO_4 := n0_; have BK181 := n1_; have HB := n2_; clear n0_ n1_ n2_; (try clear hb); (try clear hb2); (try clear hk); (try clear hi)))
    go_ret2
    exact ⟨by first | rfl | (simp [errW_none, errW_some] <;> rfl) | (simp [*, errW_none, errW_some] <;> rfl), by repeat (first | (with_reducible first | exact HB.out | apply below_alloc | apply pw_below_drewN | apply below_drew1 | refine below_set ?_ GE181.out) | exact HB.out)⟩
   rw [if_neg c18] at H
   have c18b0 : decide (0 ≤ t188) = false := decide_eq_false c18
   clear c18
   by_cases c21 : 0 ≤ (l0_0.length : Int)
   rotate_left
   ·rw [if_neg c21] at H
    exact absurd H (by simp)
   rw [if_pos c21] at H
   have c21b0 := eq_true c21
   have c21b1 : decide (0 ≤ (l0_0.length : Int)) = true := decide_eq_true c21
   clear c21
   by_cases c22 : ((l0_0.length : Int) : Int).toNat ≤ 35184372088832
   rotate_left
   ·rw [if_neg c22] at H
    exact absurd H (by simp)
   rw [if_pos c22] at H
   have c22b0 := eq_true c22
   have c22b1 : decide (((l0_0.length : Int) : Int).toNat ≤ 35184372088832) = true := decide_eq_true c22
   clear c22
   obtain ⟨y189, hy189⟩ : ∃ y_ : List Int, y_ = (List.replicate ((l0_0.length : Int) : Int).toNat 0) := ⟨_, rfl⟩
   replace H : (sequence_CheckK.l1 k1 y189 (List.replicate ((l0_0.length : Int) : Int).toNat 0) l0_1 (l0_1.length : Int) 0 l0_0 l0_1 l0_2 l0_3) = some (r1, r2) := by first | (rw [hy189]; with_reducible exact H) | (have H2_ := (Option.bind_some _ _).symm.trans H; rw [hy189]; with_reducible exact H2_) | (have H2_ := (Option.bind_some _ _).symm.trans H; with_reducible exact H2_) | with_reducible exact H | (rw [hy189]; exact H) | exact H
   have Ny189 := Aside0.mk hy189
   clear hy189
   obtain ⟨y192, hy192⟩ : ∃ y_ : List Int, y_ = (List.replicate ((l0_0.length : Int) : Int).toNat 0) := ⟨_, rfl⟩
   replace H : (sequence_CheckK.l1 k1 y189 y192 l0_1 (l0_1.length : Int) 0 l0_0 l0_1 l0_2 l0_3) = some (r1, r2) := by first | (rw [hy192]; with_reducible exact H) | (have H2_ := (Option.bind_some _ _).symm.trans H; rw [hy192]; with_reducible exact H2_) | (have H2_ := (Option.bind_some _ _).symm.trans H; with_reducible exact H2_) | with_reducible exact H | (rw [hy192]; exact H) | exact H
   have Ny192 := Aside0.mk hy192
   clear hy192
   have H' := Aside0.mk H
   clear H
   obtain ⟨Ao23, co23, eo23⟩ := Kd.R_slice HO_4.out
   subst eo23
   try go_wp2_with (first | ((with_reducible refine gate_callee (f := 37) rfl ?_); refine goesL_ (some 40) rfl rfl Try.func37 (by kernel_rfl) rfl #[.slice Ao23 x4_1.length co23] rfl (by (try simp only [List.map_toArray, List.map_cons, List.map_nil]); first | done | rfl | (simp only [List.length_drop, List.length_take]; rfl)) ?_; (with_reducible refine (sequence_wrong.calls _ _ x4_1 t188 _ ?side1 ?side2 A17.out).mono ?_); (case side1 => repeat (first | exact (Kd.R_reads' HO_4.out).2.2 | (with_reducible refine Kd.C_alloc ?_ _) | (with_reducible refine Kd.C_drewN ?_ _) | (with_reducible refine Kd.C_drew ?_))); (case side2 => exact (Kd.R_reads' HO_4.out).2.1); rintro e w24 ⟨rfl, hb⟩; refine ⟨_, rfl, ?_⟩; have n0_ := Aside0.mk (Kd.R_below (by (with_reducible repeat (first | apply Kd.R_alloc | apply Kd.R_drewN | apply Kd.R_drew)); exact HO_4.out) hb); have n1_ := Aside0.mk (blk_below (g := gb181) (o := .cells #[.slice A0_0 l0_0.length c0_0, .slice A0_1 l0_1.length c0_1, .slice A0_2 l0_2.length c0_2, .slice A0_3 l0_3.length c0_3] 38 (0, 0)) (by (with_reducible repeat (first | refine blk_drewN ?_ _ | refine blk_drew ?_ | refine blk_alloc ?_ _)); exact BK181.out) hb); have n2_ := Aside0.mk (below_step (by repeat (first | (with_reducible first | exact HB.out | apply below_alloc | apply pw_below_drewN | apply below_drew1 | refine below_set ?_ GE181.out) | exact HB.out)) hb); clear HO_4; clear BK181; clear HB; have HO_4 := n0_; have BK181 := n1_; have HB := n2_; clear n0_ n1_ n2_; (try clear hb); (try clear hb2); (try clear hk); (try clear hi)))
   have n0_ := Aside0.mk (Kd.R_drew HO_4.out)
   have n1_ := Aside0.mk (blk_drew BK181.out)
   have n2_ := Aside0.mk (below_drew1 HB.out)
   clear HO_4; clear BK181; clear HB; have HO_4 := n0_; have BK181 := n1_; have HB := n2_; clear n0_ n1_ n2_
   refine start_ (n := 10) (S := fun w' => w'.cell? ⟨gb181, 0, none⟩ = some (.slice A0_0 l0_0.length c0_0) ∧ w'.cell? ⟨gb181, 1, none⟩ = some (.slice A0_1 l0_1.length c0_1) ∧ w'.cell? ⟨gb181, 2, none⟩ = some (.slice A0_2 l0_2.length c0_2) ∧ w'.cell? ⟨gb181, 3, none⟩ = some (.slice A0_3 l0_3.length c0_3)) (ds := []) #[false, false, false, false, false, false, false, false, false, false] (by kernel_rfl) rfl rfl ⟨(blk_cell BK181.out 0).trans rfl, (blk_cell BK181.out 1).trans rfl, (blk_cell BK181.out 2).trans rfl, (blk_cell BK181.out 3).trans rfl⟩ (fun hHeld => ?_); refine with_tabW sequence_CheckK.tab14 sequence_CheckK.bits14 (fun HT_ HW_ => ?_)
   generalize w24.drew = w25 at HO_4 BK181 HB hHeld ⊢
   refine pure_ (i := 0) (N := some 44) (v := ?_) (a' := ?_) zc0_ rfl rfl (any_of HT_.out (by kernel_rfl)) (fun _ _ _ h => h) (Or.inl ⟨by rfl, ?_⟩) ?_ ?_; rotate_left; (·(intro w'; go_simp; with_reducible rfl)); rotate_left; (·(simp only [q1,q2,q3,q4,q5,q6,q7]; rfl))
   refine pure_ (i := 4) (N := some 48) (v := ?_) (a' := ?_) zc1_ rfl rfl (any_of HT_.out (by kernel_rfl)) (fun _ _ _ h => h) (Or.inl ⟨by rfl, ?_⟩) ?_ ?_; rotate_left; (·(intro w'; go_simp; with_reducible rfl)); rotate_left; (·(simp only [q1,q2,q3,q4,q5,q6,q7]; rfl))
   refine take_ (i := 1) (N := some 45) (v := ?_) (a' := ?_) zc2_ rfl rfl (take_ofW HT_.out HW_.out (by kernel_rfl)) (fun _ _ _ h => h) (Or.inl ⟨by rfl, ?_⟩) hHeld ?_ ?_; rotate_left; (·(rintro w' ⟨s0, s1, s2, s3⟩; go_simp; with_reducible rfl)); rotate_left; (·(simp only [q1,q2,q3,q4,q5,q6,q7]; rfl))
   refine pure_ (i := 2) (N := some 46) (v := ?_) (a' := ?_) zc3_ rfl rfl (any_of HT_.out (by kernel_rfl)) (fun _ _ _ h => h) (Or.inl ⟨by rfl, ?_⟩) ?_ ?_; rotate_left; (·(intro w'; go_simp; with_reducible rfl)); rotate_left; (·(simp only [q1,q2,q3,q4,q5,q6,q7]; rfl))
   refine take_ (i := 5) (N := some 49) (v := ?_) (a' := ?_) zc4_ rfl rfl (take_ofW HT_.out HW_.out (by kernel_rfl)) (fun _ _ _ h => h) (Or.inl ⟨by rfl, ?_⟩) hHeld ?_ ?_; rotate_left; (·(rintro w' ⟨s0, s1, s2, s3⟩; go_simp; with_reducible rfl)); rotate_left; (·(simp only [q1,q2,q3,q4,q5,q6,q7]; rfl))
   refine pure_ (i := 6) (N := some 50) (v := ?_) (a' := ?_) zc5_ rfl rfl (any_of HT_.out (by kernel_rfl)) (fun _ _ _ h => h) (Or.inl ⟨by rfl, ?_⟩) ?_ ?_; rotate_left; (·(intro w'; go_simp; with_reducible rfl)); rotate_left; (·(simp only [q1,q2,q3,q4,q5,q6,q7]; rfl))
   refine join_ (σ := Value × Value) 1 zc6_ (fun s_ => [(47, s_.1), (51, s_.2), (8, s_.1)]) (fun s_ w' => (w'.cell? ⟨gb181, 0, none⟩ = some (.slice A0_0 l0_0.length c0_0) ∧ w'.cell? ⟨gb181, 1, none⟩ = some (.slice A0_1 l0_1.length c0_1) ∧ w'.cell? ⟨gb181, 2, none⟩ = some (.slice A0_2 l0_2.length c0_2) ∧ w'.cell? ⟨gb181, 3, none⟩ = some (.slice A0_3 l0_3.length c0_3)) ∧ (Kd.R (Kd.int .i64) 3 w' w.heap.size (fun k_ => some k_ ≠ (s_.2 : Value).ownBlock) s_.1 y189) ∧ (Kd.R (Kd.int .i64) 3 w' w.heap.size (fun k_ => some k_ ≠ (s_.1 : Value).ownBlock) s_.2 y192) ∧ (Kd.R k27 27 w' w.heap.size (fun _ => True) (.slice Ao23 x4_1.length co23) x4_1) ∧ (w'.heap[gb181]? = some (.cells #[.slice A0_0 l0_0.length c0_0, .slice A0_1 l0_1.length c0_1, .slice A0_2 l0_2.length c0_2, .slice A0_3 l0_3.length c0_3] 38 (0, 0))) ∧ (Below w.heap.size w w')) ?_ ?_
   rotate_left
   ·intro hCont
    refine two_ (i := 3) (j := 7) (Ni := some 47) (Nj := some 51) zc7_ zc8_ rfl rfl rfl rfl (two_of HT_.out (by kernel_rfl)) (by decide) (by decide) (fun K hK => ?_) (fun K hK => ?_)
    ·skip
     refine Kd.R_make_step (Kd.int .i64) _ 3 (by rfl) (N := 47) rfl 24 _ _ rfl (l0_0.length : Int) rfl rfl Try.underlying24 (.int .i64 0) 8 info3 rfl (by decide) (by omega) 0 (ok := fun _ => True) (okp := fun _ => True) rfl (fun _ hk => hk) trivial (of_decide_eq_true (by first | (with_reducible assumption) | assumption)) (Nat.le_trans (Nat.mul_le_mul_right _ (of_decide_eq_true (by first | (with_reducible assumption) | assumption) : (l0_0.length : Int).toNat ≤ 35184372088832)) (by omega)) (Below.refl _ _) (Nat.le_refl _) ?_
     intro v190 w26 ho27 hb hg_ hnew_
     clear hg_ hnew_
     (first | rw [← Ny189.out] at ho27 | (simp only [Int.reduceToNat] at ho27; rw [← Ny189.out] at ho27))
     have n0_ := Aside0.mk (Kd.R_below (by (with_reducible repeat (first | apply Kd.R_alloc | apply Kd.R_drewN | apply Kd.R_drew)); exact HO_4.out) hb)
     have n1_ := Aside0.mk (Kd.R_lower ho27 (below_size (by repeat (first | (with_reducible first | exact HB.out | apply below_alloc | apply pw_below_drewN | apply below_drew1 | refine below_set ?_ GE181.out) | exact HB.out))))
     have n2_ := Aside0.mk (blk_below (g := gb181) (o := .cells #[.slice A0_0 l0_0.length c0_0, .slice A0_1 l0_1.length c0_1, .slice A0_2 l0_2.length c0_2, .slice A0_3 l0_3.length c0_3] 38 (0, 0)) (by (with_reducible repeat (first | refine blk_drewN ?_ _ | refine blk_drew ?_ | refine blk_alloc ?_ _)); exact BK181.out) hb)
     have n3_ := Aside0.mk (below_step (by repeat (first | (with_reducible first | exact HB.out | apply below_alloc | apply pw_below_drewN | apply below_drew1 | refine below_set ?_ GE181.out) | exact HB.out)) hb)
     clear HO_4; clear BK181; clear HB; have HO_4 := n0_; have HO191 := n1_; have BK181 := n2_; have HB := n3_; clear n0_ n1_ n2_ n3_; clear hb ho27
     refine hK.out _ _ ⟨(blk_cell BK181.out 0).trans rfl, (blk_cell BK181.out 1).trans rfl, (blk_cell BK181.out 2).trans rfl, (blk_cell BK181.out 3).trans rfl⟩ (fun hHeld => ?_)
     clear hK K
     refine norm_ (a' := ?_) ?_ ?_
     rotate_left; (·(show Act.put _ (some 47) _ = _; simp only [q1,q2,q3,q4,q5,q6,q7]; rfl))
     refine pure_ (i := 8) (N := some 8) (v := ?_) (a' := ?_) zc9_ rfl rfl (any_of HT_.out (by kernel_rfl)) (fun _ _ _ h => h) (Or.inl ⟨by rfl, ?_⟩) ?_ ?_; rotate_left; (·(intro w'; go_simp; with_reducible rfl)); rotate_left; (·(simp only [q1,q2,q3,q4,q5,q6,q7]; rfl))
     refine one_ (i := 7) (N := some 51) zc6_ rfl rfl (one_of HT_.out (by kernel_rfl)) (by decide) (fun K hK => ?_)
     refine Kd.R_make_step (Kd.int .i64) _ 3 (by rfl) (N := 51) rfl 24 _ _ rfl (l0_0.length : Int) rfl rfl Try.underlying24 (.int .i64 0) 8 info3 rfl (by decide) (by omega) 0 (ok := fun _ => True) (okp := fun _ => True) rfl (fun _ hk => hk) trivial (of_decide_eq_true (by first | (with_reducible assumption) | assumption)) (Nat.le_trans (Nat.mul_le_mul_right _ (of_decide_eq_true (by first | (with_reducible assumption) | assumption) : (l0_0.length : Int).toNat ≤ 35184372088832)) (by omega)) (Below.refl _ _) (Nat.le_refl _) ?_
     intro v193 w28 ho29 hb hg_ hnew_
     clear hg_ hnew_
     (first | rw [← Ny192.out] at ho29 | (simp only [Int.reduceToNat] at ho29; rw [← Ny192.out] at ho29))
     have n0_ := Aside0.mk (Kd.R_below (by (with_reducible repeat (first | apply Kd.R_alloc | apply Kd.R_drewN | apply Kd.R_drew)); exact HO_4.out) hb)
     have n1_ := Aside0.mk (Kd.R_elder' (by (with_reducible repeat (first | apply Kd.R_alloc | apply Kd.R_drewN | apply Kd.R_drew)); exact HO191.out) (Kd.R_base ho29) hb)
     have n2_ := Aside0.mk (Kd.R_lower (Kd.R_new' ho29 (Kd.R_lt (by (with_reducible repeat (first | apply Kd.R_alloc | apply Kd.R_drewN | apply Kd.R_drew)); exact HO191.out))) (below_size (by repeat (first | (with_reducible first | exact HB.out | apply below_alloc | apply pw_below_drewN | apply below_drew1 | refine below_set ?_ GE181.out) | exact HB.out))))
     have n3_ := Aside0.mk (blk_below (g := gb181) (o := .cells #[.slice A0_0 l0_0.length c0_0, .slice A0_1 l0_1.length c0_1, .slice A0_2 l0_2.length c0_2, .slice A0_3 l0_3.length c0_3] 38 (0, 0)) (by (with_reducible repeat (first | refine blk_drewN ?_ _ | refine blk_drew ?_ | refine blk_alloc ?_ _)); exact BK181.out) hb)
     have n4_ := Aside0.mk (below_step (by repeat (first | (with_reducible first | exact HB.out | apply below_alloc | apply pw_below_drewN | apply below_drew1 | refine below_set ?_ GE181.out) | exact HB.out)) hb)
     clear HO_4; clear HO191; clear BK181; clear HB; have HO_4 := n0_; have HO191 := n1_; have HO194 := n2_; have BK181 := n3_; have HB := n4_; clear n0_ n1_ n2_ n3_ n4_; clear hb ho29
     refine hK.out _ _ ⟨(blk_cell BK181.out 0).trans rfl, (blk_cell BK181.out 1).trans rfl, (blk_cell BK181.out 2).trans rfl, (blk_cell BK181.out 3).trans rfl⟩ (fun hHeld => ?_)
     clear hK K
     refine norm_ (a' := ?_) ?_ ?_
     rotate_left; (·(show Act.put _ (some 51) _ = _; simp only [q1,q2,q3,q4,q5,q6,q7]; rfl))
     exact norm_ (by simp only [putAll, Act.put, List.setIfInBounds_toArray, List.set_cons_zero, List.set_cons_succ]) (hCont (v190, v193) _ ⟨hHeld, (by (with_reducible repeat (first | apply Kd.R_alloc | apply Kd.R_drewN | apply Kd.R_drew)); exact Kd.R_mono HO191.out (fun _ hk => hk.2)), (by (with_reducible repeat (first | apply Kd.R_alloc | apply Kd.R_drewN | apply Kd.R_drew)); exact Kd.R_mono HO194.out (fun _ hk => hk.2)), (by (with_reducible repeat (first | apply Kd.R_alloc | apply Kd.R_drewN | apply Kd.R_drew)); exact HO_4.out), (by (with_reducible repeat (first | refine blk_drewN ?_ _ | refine blk_drew ?_ | refine blk_alloc ?_ _)); exact BK181.out), (by repeat (first | (with_reducible first | exact HB.out | apply below_alloc | apply pw_below_drewN | apply below_drew1 | refine below_set ?_ GE181.out) | exact HB.out))⟩)
    skip
    refine Kd.R_make_step (Kd.int .i64) _ 3 (by rfl) (N := 51) rfl 24 _ _ rfl (l0_0.length : Int) rfl rfl Try.underlying24 (.int .i64 0) 8 info3 rfl (by decide) (by omega) 0 (ok := fun _ => True) (okp := fun _ => True) rfl (fun _ hk => hk) trivial (of_decide_eq_true (by first | (with_reducible assumption) | assumption)) (Nat.le_trans (Nat.mul_le_mul_right _ (of_decide_eq_true (by first | (with_reducible assumption) | assumption) : (l0_0.length : Int).toNat ≤ 35184372088832)) (by omega)) (Below.refl _ _) (Nat.le_refl _) ?_
    intro v193 w26 ho27 hb hg_ hnew_
    clear hg_ hnew_
    (first | rw [← Ny192.out] at ho27 | (simp only [Int.reduceToNat] at ho27; rw [← Ny192.out] at ho27))
    have n0_ := Aside0.mk (Kd.R_below (by (with_reducible repeat (first | apply Kd.R_alloc | apply Kd.R_drewN | apply Kd.R_drew)); exact HO_4.out) hb)
    have n1_ := Aside0.mk (Kd.R_lower ho27 (below_size (by repeat (first | (with_reducible first | exact HB.out | apply below_alloc | apply pw_below_drewN | apply below_drew1 | refine below_set ?_ GE181.out) | exact HB.out))))
    have n2_ := Aside0.mk (blk_below (g := gb181) (o := .cells #[.slice A0_0 l0_0.length c0_0, .slice A0_1 l0_1.length c0_1, .slice A0_2 l0_2.length c0_2, .slice A0_3 l0_3.length c0_3] 38 (0, 0)) (by (with_reducible repeat (first | refine blk_drewN ?_ _ | refine blk_drew ?_ | refine blk_alloc ?_ _)); exact BK181.out) hb)
    have n3_ := Aside0.mk (below_step (by repeat (first | (with_reducible first | exact HB.out | apply below_alloc | apply pw_below_drewN | apply below_drew1 | refine below_set ?_ GE181.out) | exact HB.out)) hb)
    clear HO_4; clear BK181; clear HB; have HO_4 := n0_; have HO194 := n1_; have BK181 := n2_; have HB := n3_; clear n0_ n1_ n2_ n3_; clear hb ho27
    refine hK.out _ _ ⟨(blk_cell BK181.out 0).trans rfl, (blk_cell BK181.out 1).trans rfl, (blk_cell BK181.out 2).trans rfl, (blk_cell BK181.out 3).trans rfl⟩ (fun hHeld => ?_)
    clear hK K
    refine norm_ (a' := ?_) ?_ ?_
    rotate_left; (·(show Act.put _ (some 51) _ = _; simp only [q1,q2,q3,q4,q5,q6,q7]; rfl))
    refine one_ (i := 3) (N := some 47) zc10_ rfl rfl (one_of HT_.out (by kernel_rfl)) (by decide) (fun K hK => ?_)
    refine Kd.R_make_step (Kd.int .i64) _ 3 (by rfl) (N := 47) rfl 24 _ _ rfl (l0_0.length : Int) rfl rfl Try.underlying24 (.int .i64 0) 8 info3 rfl (by decide) (by omega) 0 (ok := fun _ => True) (okp := fun _ => True) rfl (fun _ hk => hk) trivial (of_decide_eq_true (by first | (with_reducible assumption) | assumption)) (Nat.le_trans (Nat.mul_le_mul_right _ (of_decide_eq_true (by first | (with_reducible assumption) | assumption) : (l0_0.length : Int).toNat ≤ 35184372088832)) (by omega)) (Below.refl _ _) (Nat.le_refl _) ?_
    intro v190 w28 ho29 hb hg_ hnew_
    clear hg_ hnew_
    (first | rw [← Ny189.out] at ho29 | (simp only [Int.reduceToNat] at ho29; rw [← Ny189.out] at ho29))
    have n0_ := Aside0.mk (Kd.R_below (by (with_reducible repeat (first | apply Kd.R_alloc | apply Kd.R_drewN | apply Kd.R_drew)); exact HO_4.out) hb)
    have n1_ := Aside0.mk (Kd.R_elder' (by (with_reducible repeat (first | apply Kd.R_alloc | apply Kd.R_drewN | apply Kd.R_drew)); exact HO194.out) (Kd.R_base ho29) hb)
    have n2_ := Aside0.mk (Kd.R_lower (Kd.R_new' ho29 (Kd.R_lt (by (with_reducible repeat (first | apply Kd.R_alloc | apply Kd.R_drewN | apply Kd.R_drew)); exact HO194.out))) (below_size (by repeat (first | (with_reducible first | exact HB.out | apply below_alloc | apply pw_below_drewN | apply below_drew1 | refine below_set ?_ GE181.out) | exact HB.out))))
    have n3_ := Aside0.mk (blk_below (g := gb181) (o := .cells #[.slice A0_0 l0_0.length c0_0, .slice A0_1 l0_1.length c0_1, .slice A0_2 l0_2.length c0_2, .slice A0_3 l0_3.length c0_3] 38 (0, 0)) (by (with_reducible repeat (first | refine blk_drewN ?_ _ | refine blk_drew ?_ | refine blk_alloc ?_ _)); exact BK181.out) hb)
    have n4_ := Aside0.mk (below_step (by repeat (first | (with_reducible first | exact HB.out | apply below_alloc | apply pw_below_drewN | apply below_drew1 | refine below_set ?_ GE181.out) | exact HB.out)) hb)
    clear HO_4; clear HO194; clear BK181; clear HB; have HO_4 := n0_; have HO194 := n1_; have HO191 := n2_; have BK181 := n3_; have HB := n4_; clear n0_ n1_ n2_ n3_ n4_; clear hb ho29
    refine hK.out _ _ ⟨(blk_cell BK181.out 0).trans rfl, (blk_cell BK181.out 1).trans rfl, (blk_cell BK181.out 2).trans rfl, (blk_cell BK181.out 3).trans rfl⟩ (fun hHeld => ?_)
    clear hK K
    refine norm_ (a' := ?_) ?_ ?_
    rotate_left; (·(show Act.put _ (some 47) _ = _; simp only [q1,q2,q3,q4,q5,q6,q7]; rfl))
    refine pure_ (i := 8) (N := some 8) (v := ?_) (a' := ?_) zc6_ rfl rfl (any_of HT_.out (by kernel_rfl)) (fun _ _ _ h => h) (Or.inl ⟨by rfl, ?_⟩) ?_ ?_; rotate_left; (·(intro w'; go_simp; with_reducible rfl)); rotate_left; (·(simp only [q1,q2,q3,q4,q5,q6,q7]; rfl))
    exact norm_ (by simp only [putAll, Act.put, List.setIfInBounds_toArray, List.set_cons_zero, List.set_cons_succ]) (hCont (v190, v193) _ ⟨hHeld, (by (with_reducible repeat (first | apply Kd.R_alloc | apply Kd.R_drewN | apply Kd.R_drew)); exact Kd.R_mono HO191.out (fun _ hk => hk.2)), (by (with_reducible repeat (first | apply Kd.R_alloc | apply Kd.R_drewN | apply Kd.R_drew)); exact Kd.R_mono HO194.out (fun _ hk => hk.2)), (by (with_reducible repeat (first | apply Kd.R_alloc | apply Kd.R_drewN | apply Kd.R_drew)); exact HO_4.out), (by (with_reducible repeat (first | refine blk_drewN ?_ _ | refine blk_drew ?_ | refine blk_alloc ?_ _)); exact BK181.out), (by repeat (first | (with_reducible first | exact HB.out | apply below_alloc | apply pw_below_drewN | apply below_drew1 | refine below_set ?_ GE181.out) | exact HB.out))⟩)
   rintro ⟨v190, v193⟩ w30 ⟨hS_, h0_, h1_, h2_, h3_, h4_⟩
   have n0_ : Aside0 (Kd.R (Kd.int .i64) 3 w30 w.heap.size (fun k_ => some k_ ≠ (v193 : Value).ownBlock) v190 y189) := ⟨h0_⟩
   have n1_ : Aside0 (Kd.R (Kd.int .i64) 3 w30 w.heap.size (fun k_ => some k_ ≠ (v190 : Value).ownBlock) v193 y192) := ⟨h1_⟩
   have n2_ : Aside0 (Kd.R k27 27 w30 w.heap.size (fun _ => True) (.slice Ao23 x4_1.length co23) x4_1) := ⟨h2_⟩
   have n3_ : Aside0 (w30.heap[gb181]? = some (.cells #[.slice A0_0 l0_0.length c0_0, .slice A0_1 l0_1.length c0_1, .slice A0_2 l0_2.length c0_2, .slice A0_3 l0_3.length c0_3] 38 (0, 0))) := ⟨h3_⟩
   have n4_ : Aside0 (Below w.heap.size w w30) := ⟨h4_⟩
   clear HO_4; clear BK181; clear HB; clear h0_ h1_ h2_ h3_ h4_; have HO191 := n0_; have HO194 := n1_; have HO_4 := n2_; have BK181 := n3_; have HB := n4_; clear n0_ n1_ n2_ n3_ n4_
   have hHeld : w30.cell? ⟨gb181, 0, none⟩ = some (.slice A0_0 l0_0.length c0_0) ∧ w30.cell? ⟨gb181, 1, none⟩ = some (.slice A0_1 l0_1.length c0_1) ∧ w30.cell? ⟨gb181, 2, none⟩ = some (.slice A0_2 l0_2.length c0_2) ∧ w30.cell? ⟨gb181, 3, none⟩ = some (.slice A0_3 l0_3.length c0_3) := hS_
   refine norm_ (a' := ?_) ?_ ?_
   rotate_left; (·(simp only [putAll, Act.put, List.setIfInBounds_toArray, List.set_cons_zero, List.set_cons_succ]; rfl))
   refine pure_ (i := 9) (N := some 9) (v := ?_) (a' := ?_) zc11_ rfl rfl (any_of HT_.out (by kernel_rfl)) (fun _ _ _ h => h) (Or.inl ⟨by rfl, ?_⟩) ?_ ?_; rotate_left; (·(intro w'; go_simp; with_reducible rfl)); rotate_left; (·(simp only [q1,q2,q3,q4,q5,q6,q7]; rfl))
   refine done_ (done_of HT_.out (by kernel_rfl)) ?_
   have hcz31_0 : w30.cell? ⟨gb181, 0, none⟩ = some (.slice A0_0 l0_0.length c0_0) := (blk_cell BK181.out 0).trans rfl
   have hcz31_1 : w30.cell? ⟨gb181, 1, none⟩ = some (.slice A0_1 l0_1.length c0_1) := (blk_cell BK181.out 1).trans rfl
   have hcz31_2 : w30.cell? ⟨gb181, 2, none⟩ = some (.slice A0_2 l0_2.length c0_2) := (blk_cell BK181.out 2).trans rfl
   have hcz31_3 : w30.cell? ⟨gb181, 3, none⟩ = some (.slice A0_3 l0_3.length c0_3) := (blk_cell BK181.out 3).trans rfl
   have hfz31_0 := blk_frozen BK181.out 0
   have hfz31_1 := blk_frozen BK181.out 1
   have hfz31_2 := blk_frozen BK181.out 2
   have hfz31_3 := blk_frozen BK181.out 3
   try go_wp2
   go_loopg [55] k1 (fun kq v55 w' => ∃ (x8_2 : List Int) (x9_2 : List Int) (x55_2 : Int), v55 = .int .i64 x55_2 ∧ Aside0 (sequence_CheckK.l1 kq x8_2 x9_2 l0_1 (l0_1.length : Int) x55_2 l0_0 l0_1 l0_2 l0_3 = some (r1, r2)) ∧ Aside0 (kq ≤ k1) ∧ Aside0 (Kd.R (Kd.int .i64) 3 w' w.heap.size (fun k_ => some k_ ≠ (v193 : Value).ownBlock) v190 x8_2) ∧ Aside0 (Kd.R (Kd.int .i64) 3 w' w.heap.size (fun k_ => some k_ ≠ (v190 : Value).ownBlock) v193 x9_2) ∧ Aside0 (w'.heap[gb181]? = some (.cells #[(.slice A0_0 l0_0.length c0_0), (.slice A0_1 l0_1.length c0_1), (.slice A0_2 l0_2.length c0_2), (.slice A0_3 l0_3.length c0_3)] 38 (0, 0))) ∧ Aside0 (Below w.heap.size w w'))
   case atStart => exact ⟨(y189), (y192), (0), (by first | rfl | (simp; done) | (simp [*]; done)), H', ⟨Nat.le_refl _⟩, ⟨by (with_reducible repeat (first | apply Kd.R_alloc | apply Kd.R_drewN | apply Kd.R_drew)); exact HO191.out⟩, ⟨by (with_reducible repeat (first | apply Kd.R_alloc | apply Kd.R_drewN | apply Kd.R_drew)); exact HO194.out⟩, ⟨by (with_reducible repeat (first | refine blk_drewN ?_ _ | refine blk_drew ?_ | refine blk_alloc ?_ _)); exact BK181.out⟩, ⟨by repeat (first | (with_reducible first | exact HB.out | apply below_alloc | apply pw_below_drewN | apply below_drew1 | refine below_set ?_ GE181.out) | exact HB.out)⟩⟩
   case round =>
    clear H'; (try clear c1); (try clear p1); (try clear q1); (try clear hx1); (try clear c2); (try clear p2); (try clear c3); (try clear c4); (try clear c4b0); (try clear c4b1); (try clear p6); (try clear c9); (try clear c9b0); (try clear c10); (try clear c10b0); (try clear c11); (try clear c11b0); (try clear c12); (try clear c14); (try clear c18); (try clear c18b0); (try clear p18); (try clear q18); (try clear hx18); (try clear c21); (try clear c21b0); (try clear c21b1); (try clear c22); (try clear c22b0); (try clear c22b1); (try clear c25); (try clear hcz15_0); (try clear hcz15_1); (try clear hcz15_2); (try clear hcz15_3); (try clear hcz31_0); (try clear hcz31_1); (try clear hcz31_2); (try clear hcz31_3)
    (try clear hcz6_0); (try clear hcz6_1); (try clear hcz6_2); (try clear hcz6_3); (try clear hcz8_0); (try clear hcz8_1); (try clear hcz8_2); (try clear hcz8_3); (try clear hfz15_0); (try clear hfz15_1); (try clear hfz15_2); (try clear hfz15_3); (try clear hfz31_0); (try clear hfz31_1); (try clear hfz31_2); (try clear hfz31_3); (try clear hfz6_0); (try clear hfz6_1); (try clear hfz6_2); (try clear hfz6_3); (try clear hfz8_0); (try clear hfz8_1); (try clear hfz8_2); (try clear hfz8_3); (try clear hx183_0); (try clear hx183_1); (try clear hx183_2); (try clear hx183_3); (try clear p183); (try clear p2); (try clear q183)
    obtain ⟨x8_2, x9_2, x55_2, rfl, HA, HK2, HO_8, HO_9, BK181, HB⟩ := hrel
    cases gk with
    | zero => exact absurd HA.out (by simp [sequence_CheckK.l1])
    | succ k2 =>
     have H := HA.out; clear HA
     simp only [sequence_CheckK.l1] at H
     by_cases c32 : x55_2 < (l0_1.length : Int)
     rotate_left
     ·rw [if_neg c32] at H
      have c32b0 : decide (x55_2 < (l0_1.length : Int)) = false := decide_eq_false c32
      clear c32
      have HC99 := Aside0.mk H
      clear H
      go_upto_region 25 with (fail)
      go_cut [151] (fun v151 wc => ∃ (kq : Nat) (x151_98 : Bool), v151 = .bool x151_98 ∧ Aside0 (sequence_CheckK.j3 kq x8_2 x9_2 x151_98 l0_0 l0_1 l0_2 l0_3 = some (r1, r2)) ∧ Aside0 (kq ≤ k2) ∧ Aside0 (Kd.R (Kd.int .i64) 3 wc w.heap.size (fun k_ => some k_ ≠ (v193 : Value).ownBlock) v190 x8_2) ∧ Aside0 (Kd.R (Kd.int .i64) 3 wc w.heap.size (fun k_ => some k_ ≠ (v190 : Value).ownBlock) v193 x9_2) ∧ Aside0 (wc.heap[gb181]? = some (.cells #[(.slice A0_0 l0_0.length c0_0), (.slice A0_1 l0_1.length c0_1), (.slice A0_2 l0_2.length c0_2), (.slice A0_3 l0_3.length c0_3)] 38 (0, 0))) ∧ Aside0 (Below w.heap.size w wc))
      case first =>
       have H := HC99.out; clear HC99
       by_cases c100 : (l0_2.length : Int) = (l0_0.length : Int)
       rotate_left
       ·rw [if_neg c100] at H
        have c100b0 : ((l0_2.length : Int) == (l0_0.length : Int)) = false := beq_eq_false_iff_ne.mpr c100
        have c100b1 : ((l0_2.length : Int) != (l0_0.length : Int)) = true := bne_iff_ne.mpr c100
        have c100b2 : (l0_2.length == l0_0.length) = false := by first | simpa using c100 | (simp at c100 ⊢; omega)
        (first | rw [c100b0] | (simp only [i64_w, i32_w]; rw [c100b0]) | skip)
        have H' := Aside0.mk H
        clear H
        have hcz102_0 : wr.cell? ⟨gb181, 0, none⟩ = some (.slice A0_0 l0_0.length c0_0) := (blk_cell BK181.out 0).trans rfl
        have hcz102_1 : wr.cell? ⟨gb181, 1, none⟩ = some (.slice A0_1 l0_1.length c0_1) := (blk_cell BK181.out 1).trans rfl
        have hcz102_2 : wr.cell? ⟨gb181, 2, none⟩ = some (.slice A0_2 l0_2.length c0_2) := (blk_cell BK181.out 2).trans rfl
        have hcz102_3 : wr.cell? ⟨gb181, 3, none⟩ = some (.slice A0_3 l0_3.length c0_3) := (blk_cell BK181.out 3).trans rfl
        have hfz102_0 := blk_frozen BK181.out 0
        have hfz102_1 := blk_frozen BK181.out 1
        have hfz102_2 := blk_frozen BK181.out 2
        have hfz102_3 := blk_frozen BK181.out 3
        go_wp2
        go_meet
        case rel => exact ⟨_, (true), (by first | rfl | (simp; done) | (simp [*]; done)), H', ⟨by have := HK1.out; have := HK2.out; first | omega | exact Nat.le_refl _⟩, ⟨by (with_reducible repeat (first | apply Kd.R_alloc | apply Kd.R_drewN | apply Kd.R_drew)); exact HO_8.out⟩, ⟨by (with_reducible repeat (first | apply Kd.R_alloc | apply Kd.R_drewN | apply Kd.R_drew)); exact HO_9.out⟩, ⟨by (with_reducible repeat (first | refine blk_drewN ?_ _ | refine blk_drew ?_ | refine blk_alloc ?_ _)); exact BK181.out⟩, ⟨by repeat (first | (with_reducible first | exact HB.out | apply below_alloc | apply pw_below_drewN | apply below_drew1 | refine below_set ?_ GE181.out) | exact HB.out)⟩⟩
       rw [if_pos c100] at H
       have c100b0 : ((l0_2.length : Int) == (l0_0.length : Int)) = true := beq_iff_eq.mpr c100
       have c100b1 : ((l0_2.length : Int) != (l0_0.length : Int)) = false := bne_eq_false_iff_eq.mpr c100
       have c100b2 : (l0_2.length == l0_0.length) = true := by first | simpa using c100 | (simp at c100 ⊢; omega)
       clear c100
       (first | rw [c100b0] | (simp only [i64_w, i32_w]; rw [c100b0]) | skip)
       have H' := Aside0.mk H
       clear H
       have hcz101_0 : wr.cell? ⟨gb181, 0, none⟩ = some (.slice A0_0 l0_0.length c0_0) := (blk_cell BK181.out 0).trans rfl
       have hcz101_1 : wr.cell? ⟨gb181, 1, none⟩ = some (.slice A0_1 l0_1.length c0_1) := (blk_cell BK181.out 1).trans rfl
       have hcz101_2 : wr.cell? ⟨gb181, 2, none⟩ = some (.slice A0_2 l0_2.length c0_2) := (blk_cell BK181.out 2).trans rfl
       have hcz101_3 : wr.cell? ⟨gb181, 3, none⟩ = some (.slice A0_3 l0_3.length c0_3) := (blk_cell BK181.out 3).trans rfl
       have hfz101_0 := blk_frozen BK181.out 0
       have hfz101_1 := blk_frozen BK181.out 1
       have hfz101_2 := blk_frozen BK181.out 2
       have hfz101_3 := blk_frozen BK181.out 3
       go_wp2
       go_meet
       case rel => exact ⟨_, (((l0_3.length : Int) != (l0_0.length : Int))), (by first | rfl | (simp; done) | (simp [*]; done)), H', ⟨by have := HK1.out; have := HK2.out; first | omega | exact Nat.le_refl _⟩, ⟨by (with_reducible repeat (first | apply Kd.R_alloc | apply Kd.R_drewN | apply Kd.R_drew)); exact HO_8.out⟩, ⟨by (with_reducible repeat (first | apply Kd.R_alloc | apply Kd.R_drewN | apply Kd.R_drew)); exact HO_9.out⟩, ⟨by (with_reducible repeat (first | refine blk_drewN ?_ _ | refine blk_drew ?_ | refine blk_alloc ?_ _)); exact BK181.out⟩, ⟨by repeat (first | (with_reducible first | exact HB.out | apply below_alloc | apply pw_below_drewN | apply below_drew1 | refine below_set ?_ GE181.out) | exact HB.out)⟩⟩
      case rest =>
       clear HC99; (try clear c1); (try clear p2); (try clear q2); (try clear hx2); (try clear c3); (try clear c4); (try clear c5); (try clear p6); (try clear c7); (try clear c8); (try clear p8); (try clear q8); (try clear hx8); (try clear hf8); (try clear p9); (try clear q9); (try clear hx9); (try clear hf9); (try clear c10); (try clear p20); (try clear q20); (try clear hx20); (try clear p21); (try clear q21); (try clear hx21); (try clear c32); (try clear c32b0); (try clear c33); (try clear c34); (try clear c48); (try clear c48b0); (try clear c50); (try clear c51); (try clear p64); (try clear c71); (try clear c72); (try clear c74); (try clear c75); (try clear c85); (try clear c85b0); (try clear c86)
       (try clear c86b0); (try clear p87); (try clear q87); (try clear hx87); (try clear hf87); (try clear c88); (try clear c88b0); (try clear c89); (try clear c89b0); (try clear p90); (try clear q90); (try clear hx90); (try clear hf90); (try clear c100); (try clear c100b0); (try clear c100b1); (try clear c100b2); (try clear hcz101_0); (try clear hcz101_1); (try clear hcz101_2); (try clear hcz101_3); (try clear hcz102_0); (try clear hcz102_1); (try clear hcz102_2); (try clear hcz102_3); (try clear hfz101_0); (try clear hfz101_1); (try clear hfz101_2); (try clear hfz101_3); (try clear hfz102_0); (try clear hfz102_1); (try clear hfz102_2); (try clear hfz102_3); (try clear hx208_0); (try clear hx210_0)
       (try clear hx87_0); (try clear hx90_0); (try clear p208); (try clear p210); (try clear p87); (try clear p90); (try clear q208); (try clear q210); (try clear q87); (try clear q90)
       obtain ⟨kq, x151_98, rfl, HA, HJ98, HO_8, HO_9, BK181, HB⟩ := hcut
       cases kq with
       | zero => exact absurd HA.out (by simp [sequence_CheckK.j3])
       | succ kj98 =>
        have H := HA.out; clear HA
        simp only [sequence_CheckK.j3] at H
        by_cases c103 : x151_98 = true
        ·subst c103
         have H1 : (some (0, 283)) = some (r1, r2) := by rw [if_pos rfl] at H; exact H
         clear H; have H := H1; clear H1
         simp only [Option.some.injEq, Prod.mk.injEq] at H
         obtain ⟨rfl, rfl⟩ := H
         go_wp2
         go_ret2
         exact ⟨by first | rfl | (simp [errW_none, errW_some] <;> rfl) | (simp [*, errW_none, errW_some] <;> rfl), by repeat (first | (with_reducible first | exact HB.out | apply below_alloc | apply pw_below_drewN | apply below_drew1 | refine below_set ?_ GE181.out) | exact HB.out)⟩
        replace c103 := Bool.eq_false_iff.mpr c103
        subst c103
        have H1 : (sequence_CheckK.l2 kj98 x8_2 x9_2 (l0_0.length : Int) 0 l0_0 l0_1 l0_2 l0_3) = some (r1, r2) := by rw [if_neg (show ¬ (false = true) by decide)] at H; exact H
        clear H; have H := H1; clear H1
        have H' := Aside0.mk H
        clear H
        have hcz104_0 : wc.cell? ⟨gb181, 0, none⟩ = some (.slice A0_0 l0_0.length c0_0) := (blk_cell BK181.out 0).trans rfl
        have hcz104_1 : wc.cell? ⟨gb181, 1, none⟩ = some (.slice A0_1 l0_1.length c0_1) := (blk_cell BK181.out 1).trans rfl
        have hcz104_2 : wc.cell? ⟨gb181, 2, none⟩ = some (.slice A0_2 l0_2.length c0_2) := (blk_cell BK181.out 2).trans rfl
        have hcz104_3 : wc.cell? ⟨gb181, 3, none⟩ = some (.slice A0_3 l0_3.length c0_3) := (blk_cell BK181.out 3).trans rfl
        have hfz104_0 := blk_frozen BK181.out 0
        have hfz104_1 := blk_frozen BK181.out 1
        have hfz104_2 := blk_frozen BK181.out 2
        have hfz104_3 := blk_frozen BK181.out 3
        go_wp2
        go_loopg [155] kj98 (fun kq v155 w' => ∃ (x155_4 : Int), v155 = .int .i64 x155_4 ∧ Aside0 (sequence_CheckK.l2 kq x8_2 x9_2 (l0_0.length : Int) x155_4 l0_0 l0_1 l0_2 l0_3 = some (r1, r2)) ∧ Aside0 (kq ≤ kj98) ∧ Aside0 (Kd.R (Kd.int .i64) 3 w' w.heap.size (fun k_ => some k_ ≠ (v193 : Value).ownBlock) v190 x8_2) ∧ Aside0 (Kd.R (Kd.int .i64) 3 w' w.heap.size (fun k_ => some k_ ≠ (v190 : Value).ownBlock) v193 x9_2) ∧ Aside0 (w'.heap[gb181]? = some (.cells #[(.slice A0_0 l0_0.length c0_0), (.slice A0_1 l0_1.length c0_1), (.slice A0_2 l0_2.length c0_2), (.slice A0_3 l0_3.length c0_3)] 38 (0, 0))) ∧ Aside0 (Below w.heap.size w w'))
        case atStart => exact ⟨(0), (by first | rfl | (simp; done) | (simp [*]; done)), H', ⟨Nat.le_refl _⟩, ⟨by (with_reducible repeat (first | apply Kd.R_alloc | apply Kd.R_drewN | apply Kd.R_drew)); exact HO_8.out⟩, ⟨by (with_reducible repeat (first | apply Kd.R_alloc | apply Kd.R_drewN | apply Kd.R_drew)); exact HO_9.out⟩, ⟨by (with_reducible repeat (first | refine blk_drewN ?_ _ | refine blk_drew ?_ | refine blk_alloc ?_ _)); exact BK181.out⟩, ⟨by repeat (first | (with_reducible first | exact HB.out | apply below_alloc | apply pw_below_drewN | apply below_drew1 | refine below_set ?_ GE181.out) | exact HB.out)⟩⟩
        case round =>
         clear H'; (try clear c1); (try clear p2); (try clear q2); (try clear hx2); (try clear c3); (try clear c4); (try clear c5); (try clear p6); (try clear c7); (try clear c8); (try clear p8); (try clear q8); (try clear hx8); (try clear hf8); (try clear p9); (try clear q9); (try clear hx9); (try clear hf9); (try clear c10); (try clear p20); (try clear q20); (try clear hx20); (try clear p21); (try clear q21); (try clear hx21); (try clear c32); (try clear c32b0); (try clear c33); (try clear c34); (try clear c48); (try clear c48b0); (try clear c50); (try clear c51); (try clear p64); (try clear c71); (try clear c72); (try clear c74); (try clear c75); (try clear c85); (try clear c85b0); (try clear c86)
         (try clear c86b0); (try clear p87); (try clear q87); (try clear hx87); (try clear hf87); (try clear c88); (try clear c88b0); (try clear c89); (try clear c89b0); (try clear p90); (try clear q90); (try clear hx90); (try clear hf90); (try clear c100); (try clear c100b0); (try clear c100b1); (try clear c100b2); (try clear c103); (try clear hcz101_0); (try clear hcz101_1); (try clear hcz101_2); (try clear hcz101_3); (try clear hcz102_0); (try clear hcz102_1); (try clear hcz102_2); (try clear hcz102_3); (try clear hcz104_0); (try clear hcz104_1); (try clear hcz104_2); (try clear hcz104_3); (try clear hfz101_0); (try clear hfz101_1); (try clear hfz101_2); (try clear hfz101_3); (try clear hfz102_0)
         (try clear hfz102_1); (try clear hfz102_2); (try clear hfz102_3); (try clear hfz104_0); (try clear hfz104_1); (try clear hfz104_2); (try clear hfz104_3); (try clear hx208_0); (try clear hx210_0); (try clear hx87_0); (try clear hx90_0); (try clear p2); (try clear p20); (try clear p208); (try clear p21); (try clear p210); (try clear p6); (try clear p64); (try clear p8); (try clear p87); (try clear p9); (try clear p90); (try clear q2); (try clear q20); (try clear q208); (try clear q21); (try clear q210); (try clear q8); (try clear q87); (try clear q9); (try clear q90)
         obtain ⟨x155_4, rfl, HA, HK4, HO_8, HO_9, BK181, HB⟩ := hrel
         cases gk with
         | zero => exact absurd HA.out (by simp [sequence_CheckK.l2])
         | succ k4 =>
          have H := HA.out; clear HA
          simp only [sequence_CheckK.l2] at H
          by_cases c105 : x155_4 < (l0_0.length : Int)
          rotate_left
          ·rw [if_neg c105] at H
           have c105b0 : decide (x155_4 < (l0_0.length : Int)) = false := decide_eq_false c105
           clear c105
           have H' := Aside0.mk H
           clear H
           have hcz121_0 : wr.cell? ⟨gb181, 0, none⟩ = some (.slice A0_0 l0_0.length c0_0) := (blk_cell BK181.out 0).trans rfl
           have hcz121_1 : wr.cell? ⟨gb181, 1, none⟩ = some (.slice A0_1 l0_1.length c0_1) := (blk_cell BK181.out 1).trans rfl
           have hcz121_2 : wr.cell? ⟨gb181, 2, none⟩ = some (.slice A0_2 l0_2.length c0_2) := (blk_cell BK181.out 2).trans rfl
           have hcz121_3 : wr.cell? ⟨gb181, 3, none⟩ = some (.slice A0_3 l0_3.length c0_3) := (blk_cell BK181.out 3).trans rfl
           have hfz121_0 := blk_frozen BK181.out 0
           have hfz121_1 := blk_frozen BK181.out 1
           have hfz121_2 := blk_frozen BK181.out 2
           have hfz121_3 := blk_frozen BK181.out 3
           go_wp2
           go_loopg [185] k4 (fun kq v185 w' => ∃ (x185_5 : Int), v185 = .int .i64 x185_5 ∧ Aside0 (sequence_CheckK.l3 kq x8_2 x9_2 l0_0 (l0_0.length : Int) x185_5 = some (r1, r2)) ∧ Aside0 (kq ≤ k4) ∧ Aside0 (Kd.R (Kd.int .i64) 3 w' w.heap.size (fun k_ => some k_ ≠ (v193 : Value).ownBlock) v190 x8_2) ∧ Aside0 (Kd.R (Kd.int .i64) 3 w' w.heap.size (fun k_ => some k_ ≠ (v190 : Value).ownBlock) v193 x9_2) ∧ Aside0 (w'.heap[gb181]? = some (.cells #[(.slice A0_0 l0_0.length c0_0), (.slice A0_1 l0_1.length c0_1), (.slice A0_2 l0_2.length c0_2), (.slice A0_3 l0_3.length c0_3)] 38 (0, 0))) ∧ Aside0 (Below w.heap.size w w'))
           case atStart => exact ⟨(0), (by first | rfl | (simp; done) | (simp [*]; done)), H', ⟨Nat.le_refl _⟩, ⟨by (with_reducible repeat (first | apply Kd.R_alloc | apply Kd.R_drewN | apply Kd.R_drew)); exact HO_8.out⟩, ⟨by (with_reducible repeat (first | apply Kd.R_alloc | apply Kd.R_drewN | apply Kd.R_drew)); exact HO_9.out⟩, ⟨by (with_reducible repeat (first | refine blk_drewN ?_ _ | refine blk_drew ?_ | refine blk_alloc ?_ _)); exact BK181.out⟩, ⟨by repeat (first | (with_reducible first | exact HB.out | apply below_alloc | apply pw_below_drewN | apply below_drew1 | refine below_set ?_ GE181.out) | exact HB.out)⟩⟩
           case round =>
            clear H'; (try clear c1); (try clear p2); (try clear q2); (try clear hx2); (try clear p6); (try clear c10); (try clear c11); (try clear p21); (try clear q21); (try clear hx21); (try clear p64); (try clear c105); (try clear c105b0); (try clear c106); (try clear c107); (try clear c108); (try clear c109); (try clear c109b0); (try clear c109b1); (try clear c110); (try clear c111); (try clear c112); (try clear c112b0); (try clear c112b1); (try clear hcz121_0); (try clear hcz121_1); (try clear hcz121_2); (try clear hcz121_3); (try clear hfz121_0); (try clear hfz121_1); (try clear hfz121_2); (try clear hfz121_3); (try clear hx212_0); (try clear hx213_0); (try clear hx214_0); (try clear hx215_0)
            (try clear p212); (try clear p213); (try clear p214); (try clear p215); (try clear q212); (try clear q213); (try clear q214); (try clear q215)
            obtain ⟨x185_5, rfl, HA, HK5, HO_8, HO_9, BK181, HB⟩ := hrel
            cases gk with
            | zero => exact absurd HA.out (by simp [sequence_CheckK.l3])
            | succ k5 =>
             have H := HA.out; clear HA
             simp only [sequence_CheckK.l3] at H
             by_cases c122 : x185_5 < (l0_0.length : Int)
             rotate_left
             ·rw [if_neg c122] at H
              have c122b0 : decide (x185_5 < (l0_0.length : Int)) = false := decide_eq_false c122
              clear c122
              simp only [Option.some.injEq, Prod.mk.injEq] at H
              obtain ⟨rfl, rfl⟩ := H
              go_wp2
              go_ret2
              exact ⟨by first | rfl | (simp [errW_none, errW_some] <;> rfl) | (simp [*, errW_none, errW_some] <;> rfl), by repeat (first | (with_reducible first | exact HB.out | apply below_alloc | apply pw_below_drewN | apply below_drew1 | refine below_set ?_ GE181.out) | exact HB.out)⟩
             rw [if_pos c122] at H
             have c122b0 : decide (x185_5 < (l0_0.length : Int)) = true := decide_eq_true c122
             clear c122
             by_cases c123 : 0 ≤ x185_5
             rotate_left
             ·rw [if_neg c123] at H
              exact absurd H (by simp)
             rw [if_pos c123] at H
             have c123b0 : decide (0 ≤ x185_5) = true := decide_eq_true c123
             clear c123
             by_cases c124 : x185_5 < (l0_0.length : Int)
             rotate_left
             ·rw [if_neg c124] at H
              exact absurd H (by simp)
             rw [if_pos c124] at H
             have c124b0 : decide (x185_5 < (l0_0.length : Int)) = true := decide_eq_true c124
             clear c124
             by_cases c125 : x185_5 < (x8_2.length : Int)
             rotate_left
             ·rw [if_neg c125] at H
              exact absurd H (by simp)
             rw [if_pos c125] at H
             have c125b0 : decide (x185_5 < (x8_2.length : Int)) = true := decide_eq_true c125
             clear c125
             by_cases c126 : x185_5 < (x9_2.length : Int)
             rotate_left
             ·rw [if_neg c126] at H
              exact absurd H (by simp)
             rw [if_pos c126] at H
             have c126b0 : decide (x185_5 < (x9_2.length : Int)) = true := decide_eq_true c126
             clear c126
             obtain ⟨ji127, hji127⟩ : ∃ j_ : Int, (mx (rd x8_2 x185_5) (rd x9_2 x185_5)) = j_ := ⟨_, rfl⟩
             replace H : (if (ji127) > (rd l0_0 x185_5) then (some (x185_5, 4)) else (sequence_CheckK.l3 k5 x8_2 x9_2 l0_0 (l0_0.length : Int) (wrap64 (x185_5 + 1)))) = some (r1, r2) := by first | (rw [hji127] at H; exact H) | (simp only [hji127] at H ⊢; exact H)
             have hji127_ : (if (rd x8_2 x185_5) < (rd x9_2 x185_5) then (rd x9_2 x185_5) else (rd x8_2 x185_5)) = ji127 := hji127
             by_cases c128 : (ji127) > (rd l0_0 x185_5)
             ·rw [if_pos c128] at H
              have c128b0 : decide ((rd l0_0 x185_5) < (ji127)) = true := decide_eq_true c128
              clear c128
              simp only [Option.some.injEq, Prod.mk.injEq] at H
              obtain ⟨rfl, rfl⟩ := H
              have p216 : 0 ≤ (x185_5 : Int) := of_decide_eq_true (by first | (with_reducible assumption) | assumption)
              have q216 : x185_5 < (l0_0.length : Int) := of_decide_eq_true (by first | (with_reducible assumption) | assumption)
              obtain ⟨ad216, e216, hx216_0⟩ := Kd.at_int HR0_0.out x185_5 p216 q216
              cases e216
              replace hx216_0 := (HB.out.cell (World.block_lt_of_cell? w _ hx216_0)).trans hx216_0
              replace p216 := eq_true p216
              replace q216 := eq_true q216
              try go_wp2
              have n0_ := Aside0.mk (Kd.R_drew HO_8.out)
              have n1_ := Aside0.mk (Kd.R_drew HO_9.out)
              have n2_ := Aside0.mk (blk_drew BK181.out)
              have n3_ := Aside0.mk (below_drew1 HB.out)
              clear HO_8; clear HO_9; clear BK181; clear HB; have HO_8 := n0_; have HO_9 := n1_; have BK181 := n2_; have HB := n3_; clear n0_ n1_ n2_ n3_
              obtain ⟨Ao130, co130, eo130⟩ := Kd.R_slice HO_8.out
              (first | subst eo130 | (injection eo130 with f1_ f2_ f3_; have f4_ := f1_.symm; have f5_ := f3_.symm; clear f1_ f2_ f3_; subst f4_; subst f5_))
              have p217 : 0 ≤ (x185_5 : Int) := of_decide_eq_true (by first | (with_reducible assumption) | assumption)
              have q217 : x185_5 < (x8_2.length : Int) := of_decide_eq_true (by first | (with_reducible assumption) | assumption)
              obtain ⟨ad217, e217, hx217_0⟩ := Kd.at_int (Kd.R_reads' HO_8.out).2.2 x185_5 p217 q217
              cases e217
              replace p217 := eq_true p217
              replace q217 := eq_true q217
              obtain ⟨Ao131, co131, eo131⟩ := Kd.R_slice HO_9.out
              (first | subst eo131 | (injection eo131 with f1_ f2_ f3_; have f4_ := f1_.symm; have f5_ := f3_.symm; clear f1_ f2_ f3_; subst f4_; subst f5_))
              have p218 : 0 ≤ (x185_5 : Int) := of_decide_eq_true (by first | (with_reducible assumption) | assumption)
              have q218 : x185_5 < (x9_2.length : Int) := of_decide_eq_true (by first | (with_reducible assumption) | assumption)
              obtain ⟨ad218, e218, hx218_0⟩ := Kd.at_int (Kd.R_reads' HO_9.out).2.2 x185_5 p218 q218
              cases e218
              replace p218 := eq_true p218
              replace q218 := eq_true q218
              refine start_ (n := 11) (S := fun w' => w'.cell? (ad217.add (x185_5).toNat) = some (.int .i64 (rd x8_2 x185_5)) ∧ w'.cell? (ad218.add (x185_5).toNat) = some (.int .i64 (rd x9_2 x185_5))) (ds := []) #[false, false, false, false, false, false, false, false, false, false, false] (by kernel_rfl) rfl rfl ⟨hx217_0, hx218_0⟩ (fun hHeld => ?_); refine with_tabW sequence_CheckK.tab36 sequence_CheckK.bits36 (fun HT_ HW_ => ?_)
              generalize wr.drew = w129 at HO_8 HO_9 BK181 HB hx217_0 hx218_0 hHeld ⊢
              refine pure_ (i := 0) (N := some 190) (v := ?_) (a' := ?_) zc95_ rfl rfl (any_of HT_.out (by kernel_rfl)) (fun _ _ _ h => h) (Or.inl ⟨by rfl, ?_⟩) ?_ ?_; rotate_left; (·(intro w'; go_simp; with_reducible rfl)); rotate_left; (·(simp only [q1,q2,q3,q4,q5,q6,q7]; rfl))
              refine pure_ (i := 1) (N := some 191) (v := ?_) (a' := ?_) zc96_ rfl rfl (any_of HT_.out (by kernel_rfl)) (fun _ _ _ h => h) (Or.inl ⟨by rfl, ?_⟩) ?_ ?_; rotate_left; (·(intro w'; go_simp; with_reducible rfl)); rotate_left; (·(simp only [q1,q2,q3,q4,q5,q6,q7]; rfl))
              refine pure_ (i := 2) (N := some 192) (v := ?_) (a' := ?_) zc97_ rfl rfl (any_of HT_.out (by kernel_rfl)) (fun _ _ _ h => h) (Or.inl ⟨by rfl, ?_⟩) ?_ ?_; rotate_left; (·(intro w'; go_simp; with_reducible rfl)); rotate_left; (·(simp only [q1,q2,q3,q4,q5,q6,q7]; rfl))
              refine pure_ (i := 4) (N := some 194) (v := ?_) (a' := ?_) zc98_ rfl rfl (any_of HT_.out (by kernel_rfl)) (fun _ _ _ h => h) (Or.inl ⟨by rfl, ?_⟩) ?_ ?_; rotate_left; (·(intro w'; go_simp; with_reducible rfl)); rotate_left; (·(simp only [q1,q2,q3,q4,q5,q6,q7]; rfl))
              refine pure_ (i := 5) (N := some 195) (v := ?_) (a' := ?_) zc99_ rfl rfl (any_of HT_.out (by kernel_rfl)) (fun _ _ _ h => h) (Or.inl ⟨by rfl, ?_⟩) ?_ ?_; rotate_left; (·(intro w'; go_simp; with_reducible rfl)); rotate_left; (·(simp only [q1,q2,q3,q4,q5,q6,q7]; rfl))
              refine pure_ (i := 6) (N := some 196) (v := ?_) (a' := ?_) zc100_ rfl rfl (any_of HT_.out (by kernel_rfl)) (fun _ _ _ h => h) (Or.inl ⟨by rfl, ?_⟩) ?_ ?_; rotate_left; (·(intro w'; go_simp; with_reducible rfl)); rotate_left; (·(simp only [q1,q2,q3,q4,q5,q6,q7]; rfl))
              refine pure_ (i := 9) (N := some 199) (v := ?_) (a' := ?_) zc101_ rfl rfl (any_of HT_.out (by kernel_rfl)) (fun _ _ _ h => h) (Or.inl ⟨by rfl, ?_⟩) ?_ ?_; rotate_left; (·(intro w'; go_simp; with_reducible rfl)); rotate_left; (·(simp only [q1,q2,q3,q4,q5,q6,q7]; rfl))
              refine take_ (i := 3) (N := some 193) (v := ?_) (a' := ?_) zc102_ rfl rfl (take_ofW HT_.out HW_.out (by kernel_rfl)) (fun _ _ _ h => h) (Or.inl ⟨by rfl, ?_⟩) hHeld ?_ ?_; rotate_left; (·(rintro w' ⟨s0, s1⟩; go_simp; with_reducible rfl)); rotate_left; (·(simp only [q1,q2,q3,q4,q5,q6,q7]; rfl))
              refine take_ (i := 7) (N := some 197) (v := ?_) (a' := ?_) zc103_ rfl rfl (take_ofW HT_.out HW_.out (by kernel_rfl)) (fun _ _ _ h => h) (Or.inl ⟨by rfl, ?_⟩) hHeld ?_ ?_; rotate_left; (·(rintro w' ⟨s0, s1⟩; go_simp; with_reducible rfl)); rotate_left; (·(simp only [q1,q2,q3,q4,q5,q6,q7]; rfl))
              refine pure_ (i := 8) (N := some 198) (v := ?_) (a' := ?_) zc104_ rfl rfl (any_of HT_.out (by kernel_rfl)) (fun _ _ _ h => h) (Or.inl ⟨by rfl, ?_⟩) ?_ ?_; rotate_left; (·(intro w'; go_simp; with_reducible rfl)); rotate_left; (·(simp only [q1,q2,q3,q4,q5,q6,q7]; rfl))
              refine pure_ (i := 10) (N := some 200) (v := ?_) (a' := ?_) zc105_ rfl rfl (any_of HT_.out (by kernel_rfl)) (fun _ _ _ h => h) (Or.inl ⟨by rfl, ?_⟩) ?_ ?_; rotate_left; (·(intro w'; go_simp; with_reducible rfl)); rotate_left; (·(simp only [q1,q2,q3,q4,q5,q6,q7]; rfl))
              refine done_ (done_of HT_.out (by kernel_rfl)) ?_
              try go_wp2
              go_ret2
              exact ⟨by first | rfl | (simp [errW_none, errW_some] <;> rfl) | (simp only [← hji127]; first | rfl | (simp [errW_none, errW_some] <;> rfl)) | (simp [*, errW_none, errW_some] <;> rfl), by repeat (first | (with_reducible first | exact HB.out | apply below_alloc | apply pw_below_drewN | apply below_drew1 | refine below_set ?_ GE181.out) | exact HB.out)⟩
             rw [if_neg c128] at H
             have c128b0 : decide ((rd l0_0 x185_5) < (ji127)) = false := decide_eq_false c128
             clear c128
             have H' := Aside0.mk H
             clear H
             have p216 : 0 ≤ (x185_5 : Int) := of_decide_eq_true (by first | (with_reducible assumption) | assumption)
             have q216 : x185_5 < (l0_0.length : Int) := of_decide_eq_true (by first | (with_reducible assumption) | assumption)
             obtain ⟨ad216, e216, hx216_0⟩ := Kd.at_int HR0_0.out x185_5 p216 q216
             cases e216
             replace hx216_0 := (HB.out.cell (World.block_lt_of_cell? w _ hx216_0)).trans hx216_0
             replace p216 := eq_true p216
             replace q216 := eq_true q216
             try go_wp2
             have n0_ := Aside0.mk (Kd.R_drew HO_8.out)
             have n1_ := Aside0.mk (Kd.R_drew HO_9.out)
             have n2_ := Aside0.mk (blk_drew BK181.out)
             have n3_ := Aside0.mk (below_drew1 HB.out)
             clear HO_8; clear HO_9; clear BK181; clear HB; have HO_8 := n0_; have HO_9 := n1_; have BK181 := n2_; have HB := n3_; clear n0_ n1_ n2_ n3_
             obtain ⟨Ao133, co133, eo133⟩ := Kd.R_slice HO_8.out
             (first | subst eo133 | (injection eo133 with f1_ f2_ f3_; have f4_ := f1_.symm; have f5_ := f3_.symm; clear f1_ f2_ f3_; subst f4_; subst f5_))
             have p217 : 0 ≤ (x185_5 : Int) := of_decide_eq_true (by first | (with_reducible assumption) | assumption)
             have q217 : x185_5 < (x8_2.length : Int) := of_decide_eq_true (by first | (with_reducible assumption) | assumption)
             obtain ⟨ad217, e217, hx217_0⟩ := Kd.at_int (Kd.R_reads' HO_8.out).2.2 x185_5 p217 q217
             cases e217
             replace p217 := eq_true p217
             replace q217 := eq_true q217
             obtain ⟨Ao134, co134, eo134⟩ := Kd.R_slice HO_9.out
             (first | subst eo134 | (injection eo134 with f1_ f2_ f3_; have f4_ := f1_.symm; have f5_ := f3_.symm; clear f1_ f2_ f3_; subst f4_; subst f5_))
             have p218 : 0 ≤ (x185_5 : Int) := of_decide_eq_true (by first | (with_reducible assumption) | assumption)
             have q218 : x185_5 < (x9_2.length : Int) := of_decide_eq_true (by first | (with_reducible assumption) | assumption)
             obtain ⟨ad218, e218, hx218_0⟩ := Kd.at_int (Kd.R_reads' HO_9.out).2.2 x185_5 p218 q218
             cases e218
             replace p218 := eq_true p218
             replace q218 := eq_true q218
             refine start_ (n := 11) (S := fun w' => w'.cell? (ad217.add (x185_5).toNat) = some (.int .i64 (rd x8_2 x185_5)) ∧ w'.cell? (ad218.add (x185_5).toNat) = some (.int .i64 (rd x9_2 x185_5))) (ds := []) #[false, false, false, false, false, false, false, false, false, false, false] (by kernel_rfl) rfl rfl ⟨hx217_0, hx218_0⟩ (fun hHeld => ?_); refine with_tabW sequence_CheckK.tab36 sequence_CheckK.bits36 (fun HT_ HW_ => ?_)
             generalize wr.drew = w132 at HO_8 HO_9 BK181 HB hx217_0 hx218_0 hHeld ⊢
             refine pure_ (i := 0) (N := some 190) (v := ?_) (a' := ?_) zc95_ rfl rfl (any_of HT_.out (by kernel_rfl)) (fun _ _ _ h => h) (Or.inl ⟨by rfl, ?_⟩) ?_ ?_; rotate_left; (·(intro w'; go_simp; with_reducible rfl)); rotate_left; (·(simp only [q1,q2,q3,q4,q5,q6,q7]; rfl))
             refine pure_ (i := 1) (N := some 191) (v := ?_) (a' := ?_) zc96_ rfl rfl (any_of HT_.out (by kernel_rfl)) (fun _ _ _ h => h) (Or.inl ⟨by rfl, ?_⟩) ?_ ?_; rotate_left; (·(intro w'; go_simp; with_reducible rfl)); rotate_left; (·(simp only [q1,q2,q3,q4,q5,q6,q7]; rfl))
             refine pure_ (i := 2) (N := some 192) (v := ?_) (a' := ?_) zc97_ rfl rfl (any_of HT_.out (by kernel_rfl)) (fun _ _ _ h => h) (Or.inl ⟨by rfl, ?_⟩) ?_ ?_; rotate_left; (·(intro w'; go_simp; with_reducible rfl)); rotate_left; (·(simp only [q1,q2,q3,q4,q5,q6,q7]; rfl))
             refine pure_ (i := 4) (N := some 194) (v := ?_) (a' := ?_) zc98_ rfl rfl (any_of HT_.out (by kernel_rfl)) (fun _ _ _ h => h) (Or.inl ⟨by rfl, ?_⟩) ?_ ?_; rotate_left; (·(intro w'; go_simp; with_reducible rfl)); rotate_left; (·(simp only [q1,q2,q3,q4,q5,q6,q7]; rfl))
             refine pure_ (i := 5) (N := some 195) (v := ?_) (a' := ?_) zc99_ rfl rfl (any_of HT_.out (by kernel_rfl)) (fun _ _ _ h => h) (Or.inl ⟨by rfl, ?_⟩) ?_ ?_; rotate_left; (·(intro w'; go_simp; with_reducible rfl)); rotate_left; (·(simp only [q1,q2,q3,q4,q5,q6,q7]; rfl))
             refine pure_ (i := 6) (N := some 196) (v := ?_) (a' := ?_) zc100_ rfl rfl (any_of HT_.out (by kernel_rfl)) (fun _ _ _ h => h) (Or.inl ⟨by rfl, ?_⟩) ?_ ?_; rotate_left; (·(intro w'; go_simp; with_reducible rfl)); rotate_left; (·(simp only [q1,q2,q3,q4,q5,q6,q7]; rfl))
             refine pure_ (i := 9) (N := some 199) (v := ?_) (a' := ?_) zc101_ rfl rfl (any_of HT_.out (by kernel_rfl)) (fun _ _ _ h => h) (Or.inl ⟨by rfl, ?_⟩) ?_ ?_; rotate_left; (·(intro w'; go_simp; with_reducible rfl)); rotate_left; (·(simp only [q1,q2,q3,q4,q5,q6,q7]; rfl))
             refine take_ (i := 3) (N := some 193) (v := ?_) (a' := ?_) zc102_ rfl rfl (take_ofW HT_.out HW_.out (by kernel_rfl)) (fun _ _ _ h => h) (Or.inl ⟨by rfl, ?_⟩) hHeld ?_ ?_; rotate_left; (·(rintro w' ⟨s0, s1⟩; go_simp; with_reducible rfl)); rotate_left; (·(simp only [q1,q2,q3,q4,q5,q6,q7]; rfl))
             refine take_ (i := 7) (N := some 197) (v := ?_) (a' := ?_) zc103_ rfl rfl (take_ofW HT_.out HW_.out (by kernel_rfl)) (fun _ _ _ h => h) (Or.inl ⟨by rfl, ?_⟩) hHeld ?_ ?_; rotate_left; (·(rintro w' ⟨s0, s1⟩; go_simp; with_reducible rfl)); rotate_left; (·(simp only [q1,q2,q3,q4,q5,q6,q7]; rfl))
             refine pure_ (i := 8) (N := some 198) (v := ?_) (a' := ?_) zc104_ rfl rfl (any_of HT_.out (by kernel_rfl)) (fun _ _ _ h => h) (Or.inl ⟨by rfl, ?_⟩) ?_ ?_; rotate_left; (·(intro w'; go_simp; with_reducible rfl)); rotate_left; (·(simp only [q1,q2,q3,q4,q5,q6,q7]; rfl))
             refine pure_ (i := 10) (N := some 200) (v := ?_) (a' := ?_) zc105_ rfl rfl (any_of HT_.out (by kernel_rfl)) (fun _ _ _ h => h) (Or.inl ⟨by rfl, ?_⟩) ?_ ?_; rotate_left; (·(intro w'; go_simp; with_reducible rfl)); rotate_left; (·(simp only [q1,q2,q3,q4,q5,q6,q7]; rfl))
             refine done_ (done_of HT_.out (by kernel_rfl)) ?_
             try go_wp2
             go_roundg k5
             case measure => have := HK1.out; have := HK2.out; have := HJ98.out; have := HK4.out; have := HK5.out; omega
             case rel => exact ⟨(wrap64 (x185_5 + 1)), (by first | rfl | (simp; done) | (simp [*]; done)), H', ⟨by have := HK1.out; have := HK2.out; have := HJ98.out; have := HK4.out; have := HK5.out; omega⟩, ⟨by (with_reducible repeat (first | apply Kd.R_alloc | apply Kd.R_drewN | apply Kd.R_drew)); exact HO_8.out⟩, ⟨by (with_reducible repeat (first | apply Kd.R_alloc | apply Kd.R_drewN | apply Kd.R_drew)); exact HO_9.out⟩, ⟨by (with_reducible repeat (first | refine blk_drewN ?_ _ | refine blk_drew ?_ | refine blk_alloc ?_ _)); exact BK181.out⟩, ⟨by repeat (first | (with_reducible first | exact HB.out | apply below_alloc | apply pw_below_drewN | apply below_drew1 | refine below_set ?_ GE181.out) | exact HB.out)⟩⟩
          rw [if_pos c105] at H
          have c105b0 : decide (x155_4 < (l0_0.length : Int)) = true := decide_eq_true c105
          clear c105
          by_cases c106 : 0 ≤ x155_4
          rotate_left
          ·rw [if_neg c106] at H
           exact absurd H (by simp)
          rw [if_pos c106] at H
          have c106b0 : decide (0 ≤ x155_4) = true := decide_eq_true c106
          clear c106
          by_cases c107 : x155_4 < (l0_2.length : Int)
          rotate_left
          ·rw [if_neg c107] at H
           exact absurd H (by simp)
          rw [if_pos c107] at H
          have c107b0 : decide (x155_4 < (l0_2.length : Int)) = true := decide_eq_true c107
          clear c107
          by_cases c108 : x155_4 < (x8_2.length : Int)
          rotate_left
          ·rw [if_neg c108] at H
           exact absurd H (by simp)
          rw [if_pos c108] at H
          have c108b0 : decide (x155_4 < (x8_2.length : Int)) = true := decide_eq_true c108
          clear c108
          by_cases c109 : (rd l0_2 x155_4) = (rd x8_2 x155_4)
          rotate_left
          ·rw [if_neg c109] at H
           have c109b0 : ((rd l0_2 x155_4) == (rd x8_2 x155_4)) = false := beq_eq_false_iff_ne.mpr c109
           have c109b1 : ((rd l0_2 x155_4) != (rd x8_2 x155_4)) = true := bne_iff_ne.mpr c109
           simp only [Option.some.injEq, Prod.mk.injEq] at H
           obtain ⟨rfl, rfl⟩ := H
           try go_wp2
           have n0_ := Aside0.mk (Kd.R_drew HO_8.out)
           have n1_ := Aside0.mk (Kd.R_drew HO_9.out)
           have n2_ := Aside0.mk (blk_drew BK181.out)
           have n3_ := Aside0.mk (below_drew1 HB.out)
           clear HO_8; clear HO_9; clear BK181; clear HB; have HO_8 := n0_; have HO_9 := n1_; have BK181 := n2_; have HB := n3_; clear n0_ n1_ n2_ n3_
           have p212 : 0 ≤ (x155_4 : Int) := of_decide_eq_true (by first | (with_reducible assumption) | assumption)
           have q212 : x155_4 < (l0_2.length : Int) := of_decide_eq_true (by first | (with_reducible assumption) | assumption)
           obtain ⟨ad212, e212, hx212_0⟩ := Kd.at_int HR0_2.out x155_4 p212 q212
           have hw212_0 := hx212_0
           cases e212
           replace hx212_0 := (HB.out.cell (World.block_lt_of_cell? w _ hx212_0)).trans hx212_0
           replace p212 := eq_true p212
           replace q212 := eq_true q212
           obtain ⟨Ao120, co120, eo120⟩ := Kd.R_slice HO_8.out
           (first | subst eo120 | (injection eo120 with f1_ f2_ f3_; have f4_ := f1_.symm; have f5_ := f3_.symm; clear f1_ f2_ f3_; subst f4_; subst f5_))
           have p213 : 0 ≤ (x155_4 : Int) := of_decide_eq_true (by first | (with_reducible assumption) | assumption)
           have q213 : x155_4 < (x8_2.length : Int) := of_decide_eq_true (by first | (with_reducible assumption) | assumption)
           obtain ⟨ad213, e213, hx213_0⟩ := Kd.at_int (Kd.R_reads' HO_8.out).2.2 x155_4 p213 q213
           cases e213
           replace p213 := eq_true p213
           replace q213 := eq_true q213
           refine start_ (n := 22) (S := fun w' => w'.cell? ⟨gb181, 0, none⟩ = some (.slice A0_0 l0_0.length c0_0) ∧ w'.cell? ⟨gb181, 1, none⟩ = some (.slice A0_1 l0_1.length c0_1) ∧ w'.cell? ⟨gb181, 2, none⟩ = some (.slice (some ad212) l0_2.length c0_2) ∧ w'.cell? ⟨gb181, 3, none⟩ = some (.slice A0_3 l0_3.length c0_3) ∧ w'.cell? (ad212.add (x155_4).toNat) = some (.int .i64 (rd l0_2 x155_4)) ∧ w'.cell? (ad213.add (x155_4).toNat) = some (.int .i64 (rd x8_2 x155_4))) (ds := []) #[false, false, false, false, false, false, false, false, false, false, false, false, false, false, false, false, false, false, false, false, false, false] (by kernel_rfl) rfl rfl ⟨(blk_cell BK181.out 0).trans rfl, (blk_cell BK181.out 1).trans rfl, (blk_cell BK181.out 2).trans rfl, (blk_cell BK181.out 3).trans rfl, ((HB.out.cell (World.block_lt_of_cell? w _ hw212_0)).trans hw212_0), hx213_0⟩ (fun hHeld => ?_); refine with_tabW sequence_CheckK.tab30 sequence_CheckK.bits30 (fun HT_ HW_ => ?_)
           generalize wr.drew = w119 at HO_8 HO_9 BK181 HB hx212_0 hx213_0 hHeld ⊢
           refine pure_ (i := 0) (N := some 158) (v := ?_) (a' := ?_) zc67_ rfl rfl (any_of HT_.out (by kernel_rfl)) (fun _ _ _ h => h) (Or.inl ⟨by rfl, ?_⟩) ?_ ?_; rotate_left; (·(intro w'; go_simp; with_reducible rfl)); rotate_left; (·(simp only [q1,q2,q3,q4,q5,q6,q7]; rfl))
           refine pure_ (i := 2) (N := some 160) (v := ?_) (a' := ?_) zc68_ rfl rfl (any_of HT_.out (by kernel_rfl)) (fun _ _ _ h => h) (Or.inl ⟨by rfl, ?_⟩) ?_ ?_; rotate_left; (·(intro w'; go_simp; with_reducible rfl)); rotate_left; (·(simp only [q1,q2,q3,q4,q5,q6,q7]; rfl))
           refine pure_ (i := 5) (N := some 163) (v := ?_) (a' := ?_) zc69_ rfl rfl (any_of HT_.out (by kernel_rfl)) (fun _ _ _ h => h) (Or.inl ⟨by rfl, ?_⟩) ?_ ?_; rotate_left; (·(intro w'; go_simp; with_reducible rfl)); rotate_left; (·(simp only [q1,q2,q3,q4,q5,q6,q7]; rfl))
           refine pure_ (i := 6) (N := some 164) (v := ?_) (a' := ?_) zc70_ rfl rfl (any_of HT_.out (by kernel_rfl)) (fun _ _ _ h => h) (Or.inl ⟨by rfl, ?_⟩) ?_ ?_; rotate_left; (·(intro w'; go_simp; with_reducible rfl)); rotate_left; (·(simp only [q1,q2,q3,q4,q5,q6,q7]; rfl))
           refine pure_ (i := 7) (N := some 165) (v := ?_) (a' := ?_) zc71_ rfl rfl (any_of HT_.out (by kernel_rfl)) (fun _ _ _ h => h) (Or.inl ⟨by rfl, ?_⟩) ?_ ?_; rotate_left; (·(intro w'; go_simp; with_reducible rfl)); rotate_left; (·(simp only [q1,q2,q3,q4,q5,q6,q7]; rfl))
           refine take_ (i := 1) (N := some 159) (v := ?_) (a' := ?_) zc72_ rfl rfl (take_ofW HT_.out HW_.out (by kernel_rfl)) (fun _ _ _ h => h) (Or.inl ⟨by rfl, ?_⟩) hHeld ?_ ?_; rotate_left; (·(rintro w' ⟨s0, s1, s2, s3, s4, s5⟩; go_simp; with_reducible rfl)); rotate_left; (·(simp only [q1,q2,q3,q4,q5,q6,q7]; rfl))
           refine pure_ (i := 3) (N := some 161) (v := ?_) (a' := ?_) zc73_ rfl rfl (any_of HT_.out (by kernel_rfl)) (fun _ _ _ h => h) (Or.inl ⟨by rfl, ?_⟩) ?_ ?_; rotate_left; (·(intro w'; go_simp; with_reducible rfl)); rotate_left; (·(simp only [q1,q2,q3,q4,q5,q6,q7]; rfl))
           refine take_ (i := 4) (N := some 162) (v := ?_) (a' := ?_) zc74_ rfl rfl (take_ofW HT_.out HW_.out (by kernel_rfl)) (fun _ _ _ h => h) (Or.inl ⟨by rfl, ?_⟩) hHeld ?_ ?_; rotate_left; (·(rintro w' ⟨s0, s1, s2, s3, s4, s5⟩; go_simp; with_reducible rfl)); rotate_left; (·(simp only [q1,q2,q3,q4,q5,q6,q7]; rfl))
           refine take_ (i := 8) (N := some 166) (v := ?_) (a' := ?_) zc75_ rfl rfl (take_ofW HT_.out HW_.out (by kernel_rfl)) (fun _ _ _ h => h) (Or.inl ⟨by rfl, ?_⟩) hHeld ?_ ?_; rotate_left; (·(rintro w' ⟨s0, s1, s2, s3, s4, s5⟩; go_simp; with_reducible rfl)); rotate_left; (·(simp only [q1,q2,q3,q4,q5,q6,q7]; rfl))
           refine pure_ (i := 9) (N := some 167) (v := ?_) (a' := ?_) zc76_ rfl rfl (any_of HT_.out (by kernel_rfl)) (fun _ _ _ h => h) (Or.inl ⟨by rfl, ?_⟩) ?_ ?_; rotate_left; (·(intro w'; go_simp; with_reducible rfl)); rotate_left; (·(simp only [q1,q2,q3,q4,q5,q6,q7]; rfl))
           refine pure_ (i := 10) (N := some 168) (v := ?_) (a' := ?_) zc77_ rfl rfl (any_of HT_.out (by kernel_rfl)) (fun _ _ _ h => h) (Or.inl ⟨by rfl, ?_⟩) ?_ ?_; rotate_left; (·(intro w'; go_simp; with_reducible rfl)); rotate_left; (·(simp only [q1,q2,q3,q4,q5,q6,q7]; rfl))
           refine pure_ (i := 11) (N := some 169) (v := undef) (a' := ?_) zc78_ rfl rfl (any_of HT_.out (by kernel_rfl)) (fun _ _ _ h => h) (Or.inr ⟨by rfl, rfl⟩) ?_ ?_; rotate_left; (·(simp only [q1,q2,q3,q4,q5,q6,q7]; rfl))
           refine pure_ (i := 12) (N := some 170) (v := undef) (a' := ?_) zc89_ rfl rfl (any_of HT_.out (by kernel_rfl)) (fun _ _ _ h => h) (Or.inr ⟨by rfl, rfl⟩) ?_ ?_; rotate_left; (·(simp only [q1,q2,q3,q4,q5,q6,q7]; rfl))
           refine pure_ (i := 13) (N := some 171) (v := undef) (a' := ?_) zc90_ rfl rfl (any_of HT_.out (by kernel_rfl)) (fun _ _ _ h => h) (Or.inr ⟨by rfl, rfl⟩) ?_ ?_; rotate_left; (·(simp only [q1,q2,q3,q4,q5,q6,q7]; rfl))
           refine pure_ (i := 14) (N := some 172) (v := undef) (a' := ?_) zc91_ rfl rfl (any_of HT_.out (by kernel_rfl)) (fun _ _ _ h => h) (Or.inr ⟨by rfl, rfl⟩) ?_ ?_; rotate_left; (·(simp only [q1,q2,q3,q4,q5,q6,q7]; rfl))
           refine pure_ (i := 15) (N := some 173) (v := undef) (a' := ?_) zc92_ rfl rfl (any_of HT_.out (by kernel_rfl)) (fun _ _ _ h => h) (Or.inr ⟨by rfl, rfl⟩) ?_ ?_; rotate_left; (·(simp only [q1,q2,q3,q4,q5,q6,q7]; rfl))
           refine pure_ (i := 16) (N := some 174) (v := undef) (a' := ?_) zc93_ rfl rfl (any_of HT_.out (by kernel_rfl)) (fun _ _ _ h => h) (Or.inr ⟨by rfl, rfl⟩) ?_ ?_; rotate_left; (·(simp only [q1,q2,q3,q4,q5,q6,q7]; rfl))
           refine pure_ (i := 17) (N := some 175) (v := undef) (a' := ?_) zc94_ rfl rfl (any_of HT_.out (by kernel_rfl)) (fun _ _ _ h => h) (Or.inr ⟨by rfl, rfl⟩) ?_ ?_; rotate_left; (·(simp only [q1,q2,q3,q4,q5,q6,q7]; rfl))
           refine pure_ (i := 18) (N := some 176) (v := undef) (a' := ?_) zc85_ rfl rfl (any_of HT_.out (by kernel_rfl)) (fun _ _ _ h => h) (Or.inr ⟨by rfl, rfl⟩) ?_ ?_; rotate_left; (·(simp only [q1,q2,q3,q4,q5,q6,q7]; rfl))
           refine pure_ (i := 19) (N := some 177) (v := undef) (a' := ?_) zc86_ rfl rfl (any_of HT_.out (by kernel_rfl)) (fun _ _ _ h => h) (Or.inr ⟨by rfl, rfl⟩) ?_ ?_; rotate_left; (·(simp only [q1,q2,q3,q4,q5,q6,q7]; rfl))
           refine pure_ (i := 20) (N := some 178) (v := undef) (a' := ?_) zc87_ rfl rfl (any_of HT_.out (by kernel_rfl)) (fun _ _ _ h => h) (Or.inr ⟨by rfl, rfl⟩) ?_ ?_; rotate_left; (·(simp only [q1,q2,q3,q4,q5,q6,q7]; rfl))
           refine pure_ (i := 21) (N := some 179) (v := ?_) (a' := ?_) zc88_ rfl rfl (any_of HT_.out (by kernel_rfl)) (fun _ _ _ h => h) (Or.inl ⟨by rfl, ?_⟩) ?_ ?_; rotate_left; (·(intro w'; go_simp; with_reducible rfl)); rotate_left; (·(simp only [q1,q2,q3,q4,q5,q6,q7]; rfl))
           refine done_ (done_of HT_.out (by kernel_rfl)) ?_
           try go_wp2
           go_ret2
           exact ⟨by first | rfl | (simp [errW_none, errW_some] <;> rfl) | (simp [*, errW_none, errW_some] <;> rfl), by repeat (first | (with_reducible first | exact HB.out | apply below_alloc | apply pw_below_drewN | apply below_drew1 | refine below_set ?_ GE181.out) | exact HB.out)⟩
          rw [if_pos c109] at H
          have c109b0 : ((rd l0_2 x155_4) == (rd x8_2 x155_4)) = true := beq_iff_eq.mpr c109
          have c109b1 : ((rd l0_2 x155_4) != (rd x8_2 x155_4)) = false := bne_eq_false_iff_eq.mpr c109
          clear c109
          by_cases c110 : x155_4 < (l0_3.length : Int)
          rotate_left
          ·rw [if_neg c110] at H
           exact absurd H (by simp)
          rw [if_pos c110] at H
          have c110b0 : decide (x155_4 < (l0_3.length : Int)) = true := decide_eq_true c110
          clear c110
          by_cases c111 : x155_4 < (x9_2.length : Int)
          rotate_left
          ·rw [if_neg c111] at H
           exact absurd H (by simp)
          rw [if_pos c111] at H
          have c111b0 : decide (x155_4 < (x9_2.length : Int)) = true := decide_eq_true c111
          clear c111
          by_cases c112 : (rd l0_3 x155_4) = (rd x9_2 x155_4)
          rotate_left
          ·rw [if_neg c112] at H
           have c112b0 : ((rd l0_3 x155_4) == (rd x9_2 x155_4)) = false := beq_eq_false_iff_ne.mpr c112
           have c112b1 : ((rd l0_3 x155_4) != (rd x9_2 x155_4)) = true := bne_iff_ne.mpr c112
           simp only [Option.some.injEq, Prod.mk.injEq] at H
           obtain ⟨rfl, rfl⟩ := H
           try go_wp2
           have n0_ := Aside0.mk (Kd.R_drew HO_8.out)
           have n1_ := Aside0.mk (Kd.R_drew HO_9.out)
           have n2_ := Aside0.mk (blk_drew BK181.out)
           have n3_ := Aside0.mk (below_drew1 HB.out)
           clear HO_8; clear HO_9; clear BK181; clear HB; have HO_8 := n0_; have HO_9 := n1_; have BK181 := n2_; have HB := n3_; clear n0_ n1_ n2_ n3_
           have p212 : 0 ≤ (x155_4 : Int) := of_decide_eq_true (by first | (with_reducible assumption) | assumption)
           have q212 : x155_4 < (l0_2.length : Int) := of_decide_eq_true (by first | (with_reducible assumption) | assumption)
           obtain ⟨ad212, e212, hx212_0⟩ := Kd.at_int HR0_2.out x155_4 p212 q212
           have hw212_0 := hx212_0
           cases e212
           replace hx212_0 := (HB.out.cell (World.block_lt_of_cell? w _ hx212_0)).trans hx212_0
           replace p212 := eq_true p212
           replace q212 := eq_true q212
           obtain ⟨Ao117, co117, eo117⟩ := Kd.R_slice HO_8.out
           (first | subst eo117 | (injection eo117 with f1_ f2_ f3_; have f4_ := f1_.symm; have f5_ := f3_.symm; clear f1_ f2_ f3_; subst f4_; subst f5_))
           have p213 : 0 ≤ (x155_4 : Int) := of_decide_eq_true (by first | (with_reducible assumption) | assumption)
           have q213 : x155_4 < (x8_2.length : Int) := of_decide_eq_true (by first | (with_reducible assumption) | assumption)
           obtain ⟨ad213, e213, hx213_0⟩ := Kd.at_int (Kd.R_reads' HO_8.out).2.2 x155_4 p213 q213
           cases e213
           replace p213 := eq_true p213
           replace q213 := eq_true q213
           have p214 : 0 ≤ (x155_4 : Int) := of_decide_eq_true (by first | (with_reducible assumption) | assumption)
           have q214 : x155_4 < (l0_3.length : Int) := of_decide_eq_true (by first | (with_reducible assumption) | assumption)
           obtain ⟨ad214, e214, hx214_0⟩ := Kd.at_int HR0_3.out x155_4 p214 q214
           have hw214_0 := hx214_0
           cases e214
           replace hx214_0 := (HB.out.cell (World.block_lt_of_cell? w _ hx214_0)).trans hx214_0
           replace p214 := eq_true p214
           replace q214 := eq_true q214
           obtain ⟨Ao118, co118, eo118⟩ := Kd.R_slice HO_9.out
           (first | subst eo118 | (injection eo118 with f1_ f2_ f3_; have f4_ := f1_.symm; have f5_ := f3_.symm; clear f1_ f2_ f3_; subst f4_; subst f5_))
           have p215 : 0 ≤ (x155_4 : Int) := of_decide_eq_true (by first | (with_reducible assumption) | assumption)
           have q215 : x155_4 < (x9_2.length : Int) := of_decide_eq_true (by first | (with_reducible assumption) | assumption)
           obtain ⟨ad215, e215, hx215_0⟩ := Kd.at_int (Kd.R_reads' HO_9.out).2.2 x155_4 p215 q215
           cases e215
           replace p215 := eq_true p215
           replace q215 := eq_true q215
           refine start_ (n := 22) (S := fun w' => w'.cell? ⟨gb181, 0, none⟩ = some (.slice A0_0 l0_0.length c0_0) ∧ w'.cell? ⟨gb181, 1, none⟩ = some (.slice A0_1 l0_1.length c0_1) ∧ w'.cell? ⟨gb181, 2, none⟩ = some (.slice (some ad212) l0_2.length c0_2) ∧ w'.cell? ⟨gb181, 3, none⟩ = some (.slice (some ad214) l0_3.length c0_3) ∧ w'.cell? (ad212.add (x155_4).toNat) = some (.int .i64 (rd l0_2 x155_4)) ∧ w'.cell? (ad213.add (x155_4).toNat) = some (.int .i64 (rd x8_2 x155_4)) ∧ w'.cell? (ad214.add (x155_4).toNat) = some (.int .i64 (rd l0_3 x155_4)) ∧ w'.cell? (ad215.add (x155_4).toNat) = some (.int .i64 (rd x9_2 x155_4))) (ds := []) #[false, false, false, false, false, false, false, false, false, false, false, false, false, false, false, false, false, false, false, false, false, false] (by kernel_rfl) rfl rfl ⟨(blk_cell BK181.out 0).trans rfl, (blk_cell BK181.out 1).trans rfl, (blk_cell BK181.out 2).trans rfl, (blk_cell BK181.out 3).trans rfl, ((HB.out.cell (World.block_lt_of_cell? w _ hw212_0)).trans hw212_0), hx213_0, ((HB.out.cell (World.block_lt_of_cell? w _ hw214_0)).trans hw214_0), hx215_0⟩ (fun hHeld => ?_); refine with_tabW sequence_CheckK.tab30 sequence_CheckK.bits30 (fun HT_ HW_ => ?_)
           generalize wr.drew = w116 at HO_8 HO_9 BK181 HB hx212_0 hx213_0 hx214_0 hx215_0 hHeld ⊢
           refine pure_ (i := 0) (N := some 158) (v := ?_) (a' := ?_) zc67_ rfl rfl (any_of HT_.out (by kernel_rfl)) (fun _ _ _ h => h) (Or.inl ⟨by rfl, ?_⟩) ?_ ?_; rotate_left; (·(intro w'; go_simp; with_reducible rfl)); rotate_left; (·(simp only [q1,q2,q3,q4,q5,q6,q7]; rfl))
           refine pure_ (i := 2) (N := some 160) (v := ?_) (a' := ?_) zc68_ rfl rfl (any_of HT_.out (by kernel_rfl)) (fun _ _ _ h => h) (Or.inl ⟨by rfl, ?_⟩) ?_ ?_; rotate_left; (·(intro w'; go_simp; with_reducible rfl)); rotate_left; (·(simp only [q1,q2,q3,q4,q5,q6,q7]; rfl))
           refine pure_ (i := 5) (N := some 163) (v := ?_) (a' := ?_) zc69_ rfl rfl (any_of HT_.out (by kernel_rfl)) (fun _ _ _ h => h) (Or.inl ⟨by rfl, ?_⟩) ?_ ?_; rotate_left; (·(intro w'; go_simp; with_reducible rfl)); rotate_left; (·(simp only [q1,q2,q3,q4,q5,q6,q7]; rfl))
           refine pure_ (i := 6) (N := some 164) (v := ?_) (a' := ?_) zc70_ rfl rfl (any_of HT_.out (by kernel_rfl)) (fun _ _ _ h => h) (Or.inl ⟨by rfl, ?_⟩) ?_ ?_; rotate_left; (·(intro w'; go_simp; with_reducible rfl)); rotate_left; (·(simp only [q1,q2,q3,q4,q5,q6,q7]; rfl))
           refine pure_ (i := 7) (N := some 165) (v := ?_) (a' := ?_) zc71_ rfl rfl (any_of HT_.out (by kernel_rfl)) (fun _ _ _ h => h) (Or.inl ⟨by rfl, ?_⟩) ?_ ?_; rotate_left; (·(intro w'; go_simp; with_reducible rfl)); rotate_left; (·(simp only [q1,q2,q3,q4,q5,q6,q7]; rfl))
           refine take_ (i := 1) (N := some 159) (v := ?_) (a' := ?_) zc72_ rfl rfl (take_ofW HT_.out HW_.out (by kernel_rfl)) (fun _ _ _ h => h) (Or.inl ⟨by rfl, ?_⟩) hHeld ?_ ?_; rotate_left; (·(rintro w' ⟨s0, s1, s2, s3, s4, s5, s6, s7⟩; go_simp; with_reducible rfl)); rotate_left; (·(simp only [q1,q2,q3,q4,q5,q6,q7]; rfl))
           refine pure_ (i := 3) (N := some 161) (v := ?_) (a' := ?_) zc73_ rfl rfl (any_of HT_.out (by kernel_rfl)) (fun _ _ _ h => h) (Or.inl ⟨by rfl, ?_⟩) ?_ ?_; rotate_left; (·(intro w'; go_simp; with_reducible rfl)); rotate_left; (·(simp only [q1,q2,q3,q4,q5,q6,q7]; rfl))
           refine take_ (i := 4) (N := some 162) (v := ?_) (a' := ?_) zc74_ rfl rfl (take_ofW HT_.out HW_.out (by kernel_rfl)) (fun _ _ _ h => h) (Or.inl ⟨by rfl, ?_⟩) hHeld ?_ ?_; rotate_left; (·(rintro w' ⟨s0, s1, s2, s3, s4, s5, s6, s7⟩; go_simp; with_reducible rfl)); rotate_left; (·(simp only [q1,q2,q3,q4,q5,q6,q7]; rfl))
           refine take_ (i := 8) (N := some 166) (v := ?_) (a' := ?_) zc75_ rfl rfl (take_ofW HT_.out HW_.out (by kernel_rfl)) (fun _ _ _ h => h) (Or.inl ⟨by rfl, ?_⟩) hHeld ?_ ?_; rotate_left; (·(rintro w' ⟨s0, s1, s2, s3, s4, s5, s6, s7⟩; go_simp; with_reducible rfl)); rotate_left; (·(simp only [q1,q2,q3,q4,q5,q6,q7]; rfl))
           refine pure_ (i := 9) (N := some 167) (v := ?_) (a' := ?_) zc76_ rfl rfl (any_of HT_.out (by kernel_rfl)) (fun _ _ _ h => h) (Or.inl ⟨by rfl, ?_⟩) ?_ ?_; rotate_left; (·(intro w'; go_simp; with_reducible rfl)); rotate_left; (·(simp only [q1,q2,q3,q4,q5,q6,q7]; rfl))
           refine pure_ (i := 10) (N := some 168) (v := ?_) (a' := ?_) zc77_ rfl rfl (any_of HT_.out (by kernel_rfl)) (fun _ _ _ h => h) (Or.inl ⟨by rfl, ?_⟩) ?_ ?_; rotate_left; (·(intro w'; go_simp; with_reducible rfl)); rotate_left; (·(simp only [q1,q2,q3,q4,q5,q6,q7]; rfl))
           refine pure_ (i := 11) (N := some 169) (v := ?_) (a' := ?_) zc78_ rfl rfl (any_of HT_.out (by kernel_rfl)) (fun _ _ _ h => h) (Or.inl ⟨by rfl, ?_⟩) ?_ ?_; rotate_left; (·(intro w'; go_simp; with_reducible rfl)); rotate_left; (·(simp only [q1,q2,q3,q4,q5,q6,q7]; rfl))
           refine pure_ (i := 13) (N := some 171) (v := ?_) (a' := ?_) zc79_ rfl rfl (any_of HT_.out (by kernel_rfl)) (fun _ _ _ h => h) (Or.inl ⟨by rfl, ?_⟩) ?_ ?_; rotate_left; (·(intro w'; go_simp; with_reducible rfl)); rotate_left; (·(simp only [q1,q2,q3,q4,q5,q6,q7]; rfl))
           refine pure_ (i := 16) (N := some 174) (v := ?_) (a' := ?_) zc80_ rfl rfl (any_of HT_.out (by kernel_rfl)) (fun _ _ _ h => h) (Or.inl ⟨by rfl, ?_⟩) ?_ ?_; rotate_left; (·(intro w'; go_simp; with_reducible rfl)); rotate_left; (·(simp only [q1,q2,q3,q4,q5,q6,q7]; rfl))
           refine pure_ (i := 17) (N := some 175) (v := ?_) (a' := ?_) zc81_ rfl rfl (any_of HT_.out (by kernel_rfl)) (fun _ _ _ h => h) (Or.inl ⟨by rfl, ?_⟩) ?_ ?_; rotate_left; (·(intro w'; go_simp; with_reducible rfl)); rotate_left; (·(simp only [q1,q2,q3,q4,q5,q6,q7]; rfl))
           refine pure_ (i := 18) (N := some 176) (v := ?_) (a' := ?_) zc82_ rfl rfl (any_of HT_.out (by kernel_rfl)) (fun _ _ _ h => h) (Or.inl ⟨by rfl, ?_⟩) ?_ ?_; rotate_left; (·(intro w'; go_simp; with_reducible rfl)); rotate_left; (·(simp only [q1,q2,q3,q4,q5,q6,q7]; rfl))
           refine take_ (i := 12) (N := some 170) (v := ?_) (a' := ?_) zc83_ rfl rfl (take_ofW HT_.out HW_.out (by kernel_rfl)) (fun _ _ _ h => h) (Or.inl ⟨by rfl, ?_⟩) hHeld ?_ ?_; rotate_left; (·(rintro w' ⟨s0, s1, s2, s3, s4, s5, s6, s7⟩; go_simp; with_reducible rfl)); rotate_left; (·(simp only [q1,q2,q3,q4,q5,q6,q7]; rfl))
           refine pure_ (i := 14) (N := some 172) (v := ?_) (a' := ?_) zc84_ rfl rfl (any_of HT_.out (by kernel_rfl)) (fun _ _ _ h => h) (Or.inl ⟨by rfl, ?_⟩) ?_ ?_; rotate_left; (·(intro w'; go_simp; with_reducible rfl)); rotate_left; (·(simp only [q1,q2,q3,q4,q5,q6,q7]; rfl))
           refine take_ (i := 15) (N := some 173) (v := ?_) (a' := ?_) zc85_ rfl rfl (take_ofW HT_.out HW_.out (by kernel_rfl)) (fun _ _ _ h => h) (Or.inl ⟨by rfl, ?_⟩) hHeld ?_ ?_; rotate_left; (·(rintro w' ⟨s0, s1, s2, s3, s4, s5, s6, s7⟩; go_simp; with_reducible rfl)); rotate_left; (·(simp only [q1,q2,q3,q4,q5,q6,q7]; rfl))
           refine take_ (i := 19) (N := some 177) (v := ?_) (a' := ?_) zc86_ rfl rfl (take_ofW HT_.out HW_.out (by kernel_rfl)) (fun _ _ _ h => h) (Or.inl ⟨by rfl, ?_⟩) hHeld ?_ ?_; rotate_left; (·(rintro w' ⟨s0, s1, s2, s3, s4, s5, s6, s7⟩; go_simp; with_reducible rfl)); rotate_left; (·(simp only [q1,q2,q3,q4,q5,q6,q7]; rfl))
           refine pure_ (i := 20) (N := some 178) (v := ?_) (a' := ?_) zc87_ rfl rfl (any_of HT_.out (by kernel_rfl)) (fun _ _ _ h => h) (Or.inl ⟨by rfl, ?_⟩) ?_ ?_; rotate_left; (·(intro w'; go_simp; with_reducible rfl)); rotate_left; (·(simp only [q1,q2,q3,q4,q5,q6,q7]; rfl))
           refine pure_ (i := 21) (N := some 179) (v := ?_) (a' := ?_) zc88_ rfl rfl (any_of HT_.out (by kernel_rfl)) (fun _ _ _ h => h) (Or.inl ⟨by rfl, ?_⟩) ?_ ?_; rotate_left; (·(intro w'; go_simp; with_reducible rfl)); rotate_left; (·(simp only [q1,q2,q3,q4,q5,q6,q7]; rfl))
           refine done_ (done_of HT_.out (by kernel_rfl)) ?_
           try go_wp2
           go_ret2
           exact ⟨by first | rfl | (simp [errW_none, errW_some] <;> rfl) | (simp [*, errW_none, errW_some] <;> rfl), by repeat (first | (with_reducible first | exact HB.out | apply below_alloc | apply pw_below_drewN | apply below_drew1 | refine below_set ?_ GE181.out) | exact HB.out)⟩
          rw [if_pos c112] at H
          have c112b0 : ((rd l0_3 x155_4) == (rd x9_2 x155_4)) = true := beq_iff_eq.mpr c112
          have c112b1 : ((rd l0_3 x155_4) != (rd x9_2 x155_4)) = false := bne_eq_false_iff_eq.mpr c112
          clear c112
          have H' := Aside0.mk H
          clear H
          try go_wp2
          have n0_ := Aside0.mk (Kd.R_drew HO_8.out)
          have n1_ := Aside0.mk (Kd.R_drew HO_9.out)
          have n2_ := Aside0.mk (blk_drew BK181.out)
          have n3_ := Aside0.mk (below_drew1 HB.out)
          clear HO_8; clear HO_9; clear BK181; clear HB; have HO_8 := n0_; have HO_9 := n1_; have BK181 := n2_; have HB := n3_; clear n0_ n1_ n2_ n3_
          have p212 : 0 ≤ (x155_4 : Int) := of_decide_eq_true (by first | (with_reducible assumption) | assumption)
          have q212 : x155_4 < (l0_2.length : Int) := of_decide_eq_true (by first | (with_reducible assumption) | assumption)
          obtain ⟨ad212, e212, hx212_0⟩ := Kd.at_int HR0_2.out x155_4 p212 q212
          have hw212_0 := hx212_0
          cases e212
          replace hx212_0 := (HB.out.cell (World.block_lt_of_cell? w _ hx212_0)).trans hx212_0
          replace p212 := eq_true p212
          replace q212 := eq_true q212
          obtain ⟨Ao114, co114, eo114⟩ := Kd.R_slice HO_8.out
          (first | subst eo114 | (injection eo114 with f1_ f2_ f3_; have f4_ := f1_.symm; have f5_ := f3_.symm; clear f1_ f2_ f3_; subst f4_; subst f5_))
          have p213 : 0 ≤ (x155_4 : Int) := of_decide_eq_true (by first | (with_reducible assumption) | assumption)
          have q213 : x155_4 < (x8_2.length : Int) := of_decide_eq_true (by first | (with_reducible assumption) | assumption)
          obtain ⟨ad213, e213, hx213_0⟩ := Kd.at_int (Kd.R_reads' HO_8.out).2.2 x155_4 p213 q213
          cases e213
          replace p213 := eq_true p213
          replace q213 := eq_true q213
          have p214 : 0 ≤ (x155_4 : Int) := of_decide_eq_true (by first | (with_reducible assumption) | assumption)
          have q214 : x155_4 < (l0_3.length : Int) := of_decide_eq_true (by first | (with_reducible assumption) | assumption)
          obtain ⟨ad214, e214, hx214_0⟩ := Kd.at_int HR0_3.out x155_4 p214 q214
          have hw214_0 := hx214_0
          cases e214
          replace hx214_0 := (HB.out.cell (World.block_lt_of_cell? w _ hx214_0)).trans hx214_0
          replace p214 := eq_true p214
          replace q214 := eq_true q214
          obtain ⟨Ao115, co115, eo115⟩ := Kd.R_slice HO_9.out
          (first | subst eo115 | (injection eo115 with f1_ f2_ f3_; have f4_ := f1_.symm; have f5_ := f3_.symm; clear f1_ f2_ f3_; subst f4_; subst f5_))
          have p215 : 0 ≤ (x155_4 : Int) := of_decide_eq_true (by first | (with_reducible assumption) | assumption)
          have q215 : x155_4 < (x9_2.length : Int) := of_decide_eq_true (by first | (with_reducible assumption) | assumption)
          obtain ⟨ad215, e215, hx215_0⟩ := Kd.at_int (Kd.R_reads' HO_9.out).2.2 x155_4 p215 q215
          cases e215
          replace p215 := eq_true p215
          replace q215 := eq_true q215
          refine start_ (n := 22) (S := fun w' => w'.cell? ⟨gb181, 0, none⟩ = some (.slice A0_0 l0_0.length c0_0) ∧ w'.cell? ⟨gb181, 1, none⟩ = some (.slice A0_1 l0_1.length c0_1) ∧ w'.cell? ⟨gb181, 2, none⟩ = some (.slice (some ad212) l0_2.length c0_2) ∧ w'.cell? ⟨gb181, 3, none⟩ = some (.slice (some ad214) l0_3.length c0_3) ∧ w'.cell? (ad212.add (x155_4).toNat) = some (.int .i64 (rd l0_2 x155_4)) ∧ w'.cell? (ad213.add (x155_4).toNat) = some (.int .i64 (rd x8_2 x155_4)) ∧ w'.cell? (ad214.add (x155_4).toNat) = some (.int .i64 (rd l0_3 x155_4)) ∧ w'.cell? (ad215.add (x155_4).toNat) = some (.int .i64 (rd x9_2 x155_4))) (ds := []) #[false, false, false, false, false, false, false, false, false, false, false, false, false, false, false, false, false, false, false, false, false, false] (by kernel_rfl) rfl rfl ⟨(blk_cell BK181.out 0).trans rfl, (blk_cell BK181.out 1).trans rfl, (blk_cell BK181.out 2).trans rfl, (blk_cell BK181.out 3).trans rfl, ((HB.out.cell (World.block_lt_of_cell? w _ hw212_0)).trans hw212_0), hx213_0, ((HB.out.cell (World.block_lt_of_cell? w _ hw214_0)).trans hw214_0), hx215_0⟩ (fun hHeld => ?_); refine with_tabW sequence_CheckK.tab30 sequence_CheckK.bits30 (fun HT_ HW_ => ?_)
          generalize wr.drew = w113 at HO_8 HO_9 BK181 HB hx212_0 hx213_0 hx214_0 hx215_0 hHeld ⊢
          refine pure_ (i := 0) (N := some 158) (v := ?_) (a' := ?_) zc67_ rfl rfl (any_of HT_.out (by kernel_rfl)) (fun _ _ _ h => h) (Or.inl ⟨by rfl, ?_⟩) ?_ ?_; rotate_left; (·(intro w'; go_simp; with_reducible rfl)); rotate_left; (·(simp only [q1,q2,q3,q4,q5,q6,q7]; rfl))
          refine pure_ (i := 2) (N := some 160) (v := ?_) (a' := ?_) zc68_ rfl rfl (any_of HT_.out (by kernel_rfl)) (fun _ _ _ h => h) (Or.inl ⟨by rfl, ?_⟩) ?_ ?_; rotate_left; (·(intro w'; go_simp; with_reducible rfl)); rotate_left; (·(simp only [q1,q2,q3,q4,q5,q6,q7]; rfl))
          refine pure_ (i := 5) (N := some 163) (v := ?_) (a' := ?_) zc69_ rfl rfl (any_of HT_.out (by kernel_rfl)) (fun _ _ _ h => h) (Or.inl ⟨by rfl, ?_⟩) ?_ ?_; rotate_left; (·(intro w'; go_simp; with_reducible rfl)); rotate_left; (·(simp only [q1,q2,q3,q4,q5,q6,q7]; rfl))
          refine pure_ (i := 6) (N := some 164) (v := ?_) (a' := ?_) zc70_ rfl rfl (any_of HT_.out (by kernel_rfl)) (fun _ _ _ h => h) (Or.inl ⟨by rfl, ?_⟩) ?_ ?_; rotate_left; (·(intro w'; go_simp; with_reducible rfl)); rotate_left; (·(simp only [q1,q2,q3,q4,q5,q6,q7]; rfl))
          refine pure_ (i := 7) (N := some 165) (v := ?_) (a' := ?_) zc71_ rfl rfl (any_of HT_.out (by kernel_rfl)) (fun _ _ _ h => h) (Or.inl ⟨by rfl, ?_⟩) ?_ ?_; rotate_left; (·(intro w'; go_simp; with_reducible rfl)); rotate_left; (·(simp only [q1,q2,q3,q4,q5,q6,q7]; rfl))
          refine take_ (i := 1) (N := some 159) (v := ?_) (a' := ?_) zc72_ rfl rfl (take_ofW HT_.out HW_.out (by kernel_rfl)) (fun _ _ _ h => h) (Or.inl ⟨by rfl, ?_⟩) hHeld ?_ ?_; rotate_left; (·(rintro w' ⟨s0, s1, s2, s3, s4, s5, s6, s7⟩; go_simp; with_reducible rfl)); rotate_left; (·(simp only [q1,q2,q3,q4,q5,q6,q7]; rfl))
          refine pure_ (i := 3) (N := some 161) (v := ?_) (a' := ?_) zc73_ rfl rfl (any_of HT_.out (by kernel_rfl)) (fun _ _ _ h => h) (Or.inl ⟨by rfl, ?_⟩) ?_ ?_; rotate_left; (·(intro w'; go_simp; with_reducible rfl)); rotate_left; (·(simp only [q1,q2,q3,q4,q5,q6,q7]; rfl))
          refine take_ (i := 4) (N := some 162) (v := ?_) (a' := ?_) zc74_ rfl rfl (take_ofW HT_.out HW_.out (by kernel_rfl)) (fun _ _ _ h => h) (Or.inl ⟨by rfl, ?_⟩) hHeld ?_ ?_; rotate_left; (·(rintro w' ⟨s0, s1, s2, s3, s4, s5, s6, s7⟩; go_simp; with_reducible rfl)); rotate_left; (·(simp only [q1,q2,q3,q4,q5,q6,q7]; rfl))
          refine take_ (i := 8) (N := some 166) (v := ?_) (a' := ?_) zc75_ rfl rfl (take_ofW HT_.out HW_.out (by kernel_rfl)) (fun _ _ _ h => h) (Or.inl ⟨by rfl, ?_⟩) hHeld ?_ ?_; rotate_left; (·(rintro w' ⟨s0, s1, s2, s3, s4, s5, s6, s7⟩; go_simp; with_reducible rfl)); rotate_left; (·(simp only [q1,q2,q3,q4,q5,q6,q7]; rfl))
          refine pure_ (i := 9) (N := some 167) (v := ?_) (a' := ?_) zc76_ rfl rfl (any_of HT_.out (by kernel_rfl)) (fun _ _ _ h => h) (Or.inl ⟨by rfl, ?_⟩) ?_ ?_; rotate_left; (·(intro w'; go_simp; with_reducible rfl)); rotate_left; (·(simp only [q1,q2,q3,q4,q5,q6,q7]; rfl))
          refine pure_ (i := 10) (N := some 168) (v := ?_) (a' := ?_) zc77_ rfl rfl (any_of HT_.out (by kernel_rfl)) (fun _ _ _ h => h) (Or.inl ⟨by rfl, ?_⟩) ?_ ?_; rotate_left; (·(intro w'; go_simp; with_reducible rfl)); rotate_left; (·(simp only [q1,q2,q3,q4,q5,q6,q7]; rfl))
          refine pure_ (i := 11) (N := some 169) (v := ?_) (a' := ?_) zc78_ rfl rfl (any_of HT_.out (by kernel_rfl)) (fun _ _ _ h => h) (Or.inl ⟨by rfl, ?_⟩) ?_ ?_; rotate_left; (·(intro w'; go_simp; with_reducible rfl)); rotate_left; (·(simp only [q1,q2,q3,q4,q5,q6,q7]; rfl))
          refine pure_ (i := 13) (N := some 171) (v := ?_) (a' := ?_) zc79_ rfl rfl (any_of HT_.out (by kernel_rfl)) (fun _ _ _ h => h) (Or.inl ⟨by rfl, ?_⟩) ?_ ?_; rotate_left; (·(intro w'; go_simp; with_reducible rfl)); rotate_left; (·(simp only [q1,q2,q3,q4,q5,q6,q7]; rfl))
          refine pure_ (i := 16) (N := some 174) (v := ?_) (a' := ?_) zc80_ rfl rfl (any_of HT_.out (by kernel_rfl)) (fun _ _ _ h => h) (Or.inl ⟨by rfl, ?_⟩) ?_ ?_; rotate_left; (·(intro w'; go_simp; with_reducible rfl)); rotate_left; (·(simp only [q1,q2,q3,q4,q5,q6,q7]; rfl))
          refine pure_ (i := 17) (N := some 175) (v := ?_) (a' := ?_) zc81_ rfl rfl (any_of HT_.out (by kernel_rfl)) (fun _ _ _ h => h) (Or.inl ⟨by rfl, ?_⟩) ?_ ?_; rotate_left; (·(intro w'; go_simp; with_reducible rfl)); rotate_left; (·(simp only [q1,q2,q3,q4,q5,q6,q7]; rfl))
          refine pure_ (i := 18) (N := some 176) (v := ?_) (a' := ?_) zc82_ rfl rfl (any_of HT_.out (by kernel_rfl)) (fun _ _ _ h => h) (Or.inl ⟨by rfl, ?_⟩) ?_ ?_; rotate_left; (·(intro w'; go_simp; with_reducible rfl)); rotate_left; (·(simp only [q1,q2,q3,q4,q5,q6,q7]; rfl))
          refine take_ (i := 12) (N := some 170) (v := ?_) (a' := ?_) zc83_ rfl rfl (take_ofW HT_.out HW_.out (by kernel_rfl)) (fun _ _ _ h => h) (Or.inl ⟨by rfl, ?_⟩) hHeld ?_ ?_; rotate_left; (·(rintro w' ⟨s0, s1, s2, s3, s4, s5, s6, s7⟩; go_simp; with_reducible rfl)); rotate_left; (·(simp only [q1,q2,q3,q4,q5,q6,q7]; rfl))
          refine pure_ (i := 14) (N := some 172) (v := ?_) (a' := ?_) zc84_ rfl rfl (any_of HT_.out (by kernel_rfl)) (fun _ _ _ h => h) (Or.inl ⟨by rfl, ?_⟩) ?_ ?_; rotate_left; (·(intro w'; go_simp; with_reducible rfl)); rotate_left; (·(simp only [q1,q2,q3,q4,q5,q6,q7]; rfl))
          refine take_ (i := 15) (N := some 173) (v := ?_) (a' := ?_) zc85_ rfl rfl (take_ofW HT_.out HW_.out (by kernel_rfl)) (fun _ _ _ h => h) (Or.inl ⟨by rfl, ?_⟩) hHeld ?_ ?_; rotate_left; (·(rintro w' ⟨s0, s1, s2, s3, s4, s5, s6, s7⟩; go_simp; with_reducible rfl)); rotate_left; (·(simp only [q1,q2,q3,q4,q5,q6,q7]; rfl))
          refine take_ (i := 19) (N := some 177) (v := ?_) (a' := ?_) zc86_ rfl rfl (take_ofW HT_.out HW_.out (by kernel_rfl)) (fun _ _ _ h => h) (Or.inl ⟨by rfl, ?_⟩) hHeld ?_ ?_; rotate_left; (·(rintro w' ⟨s0, s1, s2, s3, s4, s5, s6, s7⟩; go_simp; with_reducible rfl)); rotate_left; (·(simp only [q1,q2,q3,q4,q5,q6,q7]; rfl))
          refine pure_ (i := 20) (N := some 178) (v := ?_) (a' := ?_) zc87_ rfl rfl (any_of HT_.out (by kernel_rfl)) (fun _ _ _ h => h) (Or.inl ⟨by rfl, ?_⟩) ?_ ?_; rotate_left; (·(intro w'; go_simp; with_reducible rfl)); rotate_left; (·(simp only [q1,q2,q3,q4,q5,q6,q7]; rfl))
          refine pure_ (i := 21) (N := some 179) (v := ?_) (a' := ?_) zc88_ rfl rfl (any_of HT_.out (by kernel_rfl)) (fun _ _ _ h => h) (Or.inl ⟨by rfl, ?_⟩) ?_ ?_; rotate_left; (·(intro w'; go_simp; with_reducible rfl)); rotate_left; (·(simp only [q1,q2,q3,q4,q5,q6,q7]; rfl))
          refine done_ (done_of HT_.out (by kernel_rfl)) ?_
          try go_wp2
          go_roundg k4
          case measure => have := HK1.out; have := HK2.out; have := HJ98.out; have := HK4.out; omega
          case rel => exact ⟨(wrap64 (x155_4 + 1)), (by first | rfl | (simp; done) | (simp [*]; done)), H', ⟨by have := HK1.out; have := HK2.out; have := HJ98.out; have := HK4.out; omega⟩, ⟨by (with_reducible repeat (first | apply Kd.R_alloc | apply Kd.R_drewN | apply Kd.R_drew)); exact HO_8.out⟩, ⟨by (with_reducible repeat (first | apply Kd.R_alloc | apply Kd.R_drewN | apply Kd.R_drew)); exact HO_9.out⟩, ⟨by (with_reducible repeat (first | refine blk_drewN ?_ _ | refine blk_drew ?_ | refine blk_alloc ?_ _)); exact BK181.out⟩, ⟨by repeat (first | (with_reducible first | exact HB.out | apply below_alloc | apply pw_below_drewN | apply below_drew1 | refine below_set ?_ GE181.out) | exact HB.out)⟩⟩
     rw [if_pos c32] at H
     have c32b0 : decide (x55_2 < (l0_1.length : Int)) = true := decide_eq_true c32
     clear c32
     by_cases c33 : 0 ≤ x55_2
     rotate_left
     ·rw [if_neg c33] at H
      exact absurd H (by simp)
     rw [if_pos c33] at H
     have c33b0 : decide (0 ≤ x55_2) = true := decide_eq_true c33
     clear c33
     by_cases c34 : x55_2 < (l0_1.length : Int)
     rotate_left
     ·rw [if_neg c34] at H
      exact absurd H (by simp)
     rw [if_pos c34] at H
     have c34b0 : decide (x55_2 < (l0_1.length : Int)) = true := decide_eq_true c34
     clear c34
     have HC35 := Aside0.mk H
     clear H
     have p195 : 0 ≤ (x55_2 : Int) := of_decide_eq_true (by first | (with_reducible assumption) | assumption)
     have q195 : x55_2 < (l0_1.length : Int) := of_decide_eq_true (by first | (with_reducible assumption) | assumption)
     obtain ⟨ad195, e195, hx195_0, hx195_1, hx195_2, hx195_3⟩ := at_T60 HR0_1.out x55_2 p195 q195
     cases e195
     replace hx195_0 := (HB.out.cell (World.block_lt_of_cell? w _ hx195_0)).trans hx195_0
     replace hx195_1 := (HB.out.cell (World.block_lt_of_cell? w _ hx195_1)).trans hx195_1
     replace hx195_2 := (HB.out.cell (World.block_lt_of_cell? w _ hx195_2)).trans hx195_2
     replace hx195_3 := (HB.out.cell (World.block_lt_of_cell? w _ hx195_3)).trans hx195_3
     replace p195 := eq_true p195
     replace q195 := eq_true q195
     go_upto_region 18 with (first | ((with_reducible refine gate_dst (N := 11) rfl ?_); (try (refine gate_guard (by rfl) ?_; dsimp only)); refine box_event ?hg (N := 11) ?hd (cs := #[.int .i64 0, .int .i64 0, .int .i64 0, .int .i64 0]) (t := 60) ?hr ?_; (case hd => rfl); (case hg => rfl); (case hr => first | (go_simp; done) | (go_simp; rfl)); intro gb196 hg w36 hbox hb; have n0_ := Aside0.mk (Kd.R_below (by (with_reducible repeat (first | apply Kd.R_alloc | apply Kd.R_drewN | apply Kd.R_drew)); exact HO_8.out) hb); have n1_ := Aside0.mk (Kd.R_below (by (with_reducible repeat (first | apply Kd.R_alloc | apply Kd.R_drewN | apply Kd.R_drew)); exact HO_9.out) hb); have n2_ := Aside0.mk (blk_below (g := gb181) (o := .cells #[.slice A0_0 l0_0.length c0_0, .slice (some ad195) l0_1.length c0_1, .slice A0_2 l0_2.length c0_2, .slice A0_3 l0_3.length c0_3] 38 (0, 0)) (by (with_reducible repeat (first | refine blk_drewN ?_ _ | refine blk_drew ?_ | refine blk_alloc ?_ _)); exact BK181.out) hb); have n3_ := Aside0.mk (below_step (by repeat (first | (with_reducible first | exact HB.out | apply below_alloc | apply pw_below_drewN | apply below_drew1 | refine below_set ?_ GE181.out) | exact HB.out)) hb); have n4_ := Aside0.mk (hbox); have n5_ := Aside0.mk ((by rw [hg]; exact (below_size (by repeat (first | (with_reducible first | exact HB.out | apply below_alloc | apply pw_below_drewN | apply below_drew1 | refine below_set ?_ GE181.out) | exact HB.out))) : w.heap.size ≤ gb196)); have n6_ := Aside0.mk ((by rw [hg]; exact (below_size (by repeat (first | (with_reducible first | exact HB.out | apply below_alloc | apply pw_below_drewN | apply below_drew1 | refine below_set ?_ GE181.out) | exact HB.out))) : w.heap.size ≤ gb196)); have n7_ := Aside0.mk ((by rw [hg]; exact Nat.ne_of_lt (blk_lt (g := gb181) (o := .cells #[.slice A0_0 l0_0.length c0_0, .slice (some ad195) l0_1.length c0_1, .slice A0_2 l0_2.length c0_2, .slice A0_3 l0_3.length c0_3] 38 (0, 0)) (by (with_reducible repeat (first | refine blk_drewN ?_ _ | refine blk_drew ?_ | refine blk_alloc ?_ _)); exact BK181.out)) : gb181 ≠ gb196)); have n8_ := Aside0.mk ((by rw [hg]; exact Nat.ne_of_gt (blk_lt (g := gb181) (o := .cells #[.slice A0_0 l0_0.length c0_0, .slice (some ad195) l0_1.length c0_1, .slice A0_2 l0_2.length c0_2, .slice A0_3 l0_3.length c0_3] 38 (0, 0)) (by (with_reducible repeat (first | refine blk_drewN ?_ _ | refine blk_drew ?_ | refine blk_alloc ?_ _)); exact BK181.out)) : gb196 ≠ gb181)); clear HO_8; clear HO_9; clear BK181; clear HB; have HO_8 := n0_; have HO_9 := n1_; have BK181 := n2_; have HB := n3_; have BK196 := n4_; have GW196 := n5_; have GE196 := n6_; have NB181_196 := n7_; have NB196_181 := n8_; clear n0_ n1_ n2_ n3_ n4_ n5_ n6_ n7_ n8_; clear hb hbox hg; have hnb37 := NB196_181.out; have hnc37 := NB181_196.out; have hcz38_0 : w36.cell? ⟨gb196, 0, none⟩ = some (.int .i64 0) := (blk_cell BK196.out 0).trans rfl; have hcz38_1 : w36.cell? ⟨gb196, 1, none⟩ = some (.int .i64 0) := (blk_cell BK196.out 1).trans rfl; have hcz38_2 : w36.cell? ⟨gb196, 2, none⟩ = some (.int .i64 0) := (blk_cell BK196.out 2).trans rfl; have hcz38_3 : w36.cell? ⟨gb196, 3, none⟩ = some (.int .i64 0) := (blk_cell BK196.out 3).trans rfl; have hfz38_0 := blk_frozen BK196.out 0; have hfz38_1 := blk_frozen BK196.out 1; have hfz38_2 := blk_frozen BK196.out 2; have hfz38_3 := blk_frozen BK196.out 3))
     (try simp only [Act.put, List.setIfInBounds_toArray, List.set_cons_zero, List.set_cons_succ])
     go_cut [76] (fun v76 wc => ∃ (kq : Nat) (x76_34 : Bool), v76 = .bool x76_34 ∧ Aside0 (sequence_CheckK.j2 kq x8_2 x9_2 x55_2 l0_1 (l0_1.length : Int) x55_2 x76_34 l0_0 l0_1 l0_2 l0_3 ((rd_T60 l0_1 x55_2).f0) ((rd_T60 l0_1 x55_2).f1) ((rd_T60 l0_1 x55_2).f2) ((rd_T60 l0_1 x55_2).f3) = some (r1, r2)) ∧ Aside0 (kq ≤ k2) ∧ Aside0 (Kd.R (Kd.int .i64) 3 wc w.heap.size (fun k_ => some k_ ≠ (v193 : Value).ownBlock) v190 x8_2) ∧ Aside0 (Kd.R (Kd.int .i64) 3 wc w.heap.size (fun k_ => some k_ ≠ (v190 : Value).ownBlock) v193 x9_2) ∧ Aside0 (wc.heap[gb181]? = some (.cells #[(.slice A0_0 l0_0.length c0_0), (.slice (some ad195) l0_1.length c0_1), (.slice A0_2 l0_2.length c0_2), (.slice A0_3 l0_3.length c0_3)] 38 (0, 0))) ∧ Aside0 (wc.heap[gb196]? = some (.cells #[.int .i64 ((rd_T60 l0_1 x55_2).f0), .int .i64 ((rd_T60 l0_1 x55_2).f1), .int .i64 ((rd_T60 l0_1 x55_2).f2), .int .i64 ((rd_T60 l0_1 x55_2).f3)] 60 (0, 0))) ∧ Aside0 (Below w.heap.size w wc))
     case first =>
      have H := HC35.out; clear HC35
      obtain ⟨ji39, hji39⟩ : ∃ j_ : Int, (mn ((rd_T60 l0_1 x55_2).f2) ((rd_T60 l0_1 x55_2).f3)) = j_ := ⟨_, rfl⟩
      replace H : (if (ji39) < 0 then (sequence_CheckK.j2 k2 x8_2 x9_2 x55_2 l0_1 (l0_1.length : Int) x55_2 true l0_0 l0_1 l0_2 l0_3 ((rd_T60 l0_1 x55_2).f0) ((rd_T60 l0_1 x55_2).f1) ((rd_T60 l0_1 x55_2).f2) ((rd_T60 l0_1 x55_2).f3)) else (sequence_CheckK.j2 k2 x8_2 x9_2 x55_2 l0_1 (l0_1.length : Int) x55_2 (decide ((mx ((rd_T60 l0_1 x55_2).f2) ((rd_T60 l0_1 x55_2).f3)) ≥ (l0_0.length : Int))) l0_0 l0_1 l0_2 l0_3 ((rd_T60 l0_1 x55_2).f0) ((rd_T60 l0_1 x55_2).f1) ((rd_T60 l0_1 x55_2).f2) ((rd_T60 l0_1 x55_2).f3))) = some (r1, r2) := by first | (rw [hji39] at H; exact H) | (simp only [hji39] at H ⊢; exact H)
      have hji39_ : (if ((rd_T60 l0_1 x55_2).f3) < ((rd_T60 l0_1 x55_2).f2) then ((rd_T60 l0_1 x55_2).f3) else ((rd_T60 l0_1 x55_2).f2)) = ji39 := hji39
      by_cases c40 : (ji39) < 0
      ·rw [if_pos c40] at H
       have c40b0 : decide ((ji39) < 0) = true := decide_eq_true c40
       clear c40
       (first | rw [c40b0] | (simp only [i64_w, i32_w]; rw [c40b0]) | skip)
       have H' := Aside0.mk H
       clear H; have hnb41 := NB196_181.out; have hnc41 := NB181_196.out
       have hcz42_0 : w36.cell? ⟨gb196, 0, none⟩ = some (.int .i64 0) := (blk_cell BK196.out 0).trans rfl
       have hcz42_1 : w36.cell? ⟨gb196, 1, none⟩ = some (.int .i64 0) := (blk_cell BK196.out 1).trans rfl
       have hcz42_2 : w36.cell? ⟨gb196, 2, none⟩ = some (.int .i64 0) := (blk_cell BK196.out 2).trans rfl
       have hcz42_3 : w36.cell? ⟨gb196, 3, none⟩ = some (.int .i64 0) := (blk_cell BK196.out 3).trans rfl
       have hfz42_0 := blk_frozen BK196.out 0
       have hfz42_1 := blk_frozen BK196.out 1
       have hfz42_2 := blk_frozen BK196.out 2
       have hfz42_3 := blk_frozen BK196.out 3
       go_wp2
       go_meet
       case rel => exact ⟨_, (true), (by first | rfl | (simp; done) | (simp [*]; done)), H', ⟨by have := HK1.out; have := HK2.out; first | omega | exact Nat.le_refl _⟩, ⟨by (with_reducible repeat (first | apply Kd.R_alloc | apply Kd.R_drewN | apply Kd.R_drew)); exact Kd.R_mono (Kd.R_far (p := ⟨gb196, 3, none⟩) (Kd.R_far (p := ⟨gb196, 2, none⟩) (Kd.R_far (p := ⟨gb196, 1, none⟩) (Kd.R_far (p := ⟨gb196, 0, none⟩) (Kd.R_types HO_8.out BK196.out (by decide)) (fun _ hk => hk.2) (.int .i64 ((rd_T60 l0_1 x55_2).f0))) (fun _ hk => hk.2) (.int .i64 ((rd_T60 l0_1 x55_2).f1))) (fun _ hk => hk.2) (.int .i64 ((rd_T60 l0_1 x55_2).f2))) (fun _ hk => hk.2) (.int .i64 ((rd_T60 l0_1 x55_2).f3))) (fun _ hk => hk.1)⟩, ⟨by (with_reducible repeat (first | apply Kd.R_alloc | apply Kd.R_drewN | apply Kd.R_drew)); exact Kd.R_mono (Kd.R_far (p := ⟨gb196, 3, none⟩) (Kd.R_far (p := ⟨gb196, 2, none⟩) (Kd.R_far (p := ⟨gb196, 1, none⟩) (Kd.R_far (p := ⟨gb196, 0, none⟩) (Kd.R_types HO_9.out BK196.out (by decide)) (fun _ hk => hk.2) (.int .i64 ((rd_T60 l0_1 x55_2).f0))) (fun _ hk => hk.2) (.int .i64 ((rd_T60 l0_1 x55_2).f1))) (fun _ hk => hk.2) (.int .i64 ((rd_T60 l0_1 x55_2).f2))) (fun _ hk => hk.2) (.int .i64 ((rd_T60 l0_1 x55_2).f3))) (fun _ hk => hk.1)⟩, ⟨by (with_reducible repeat (first | refine blk_drewN ?_ _ | refine blk_drew ?_ | refine blk_alloc ?_ _)); refine blk_far ?_ NB181_196.out _; (with_reducible repeat (first | refine blk_drewN ?_ _ | refine blk_drew ?_ | refine blk_alloc ?_ _)); refine blk_far ?_ NB181_196.out _; (with_reducible repeat (first | refine blk_drewN ?_ _ | refine blk_drew ?_ | refine blk_alloc ?_ _)); refine blk_far ?_ NB181_196.out _; (with_reducible repeat (first | refine blk_drewN ?_ _ | refine blk_drew ?_ | refine blk_alloc ?_ _)); refine blk_far ?_ NB181_196.out _; (with_reducible repeat (first | refine blk_drewN ?_ _ | refine blk_drew ?_ | refine blk_alloc ?_ _)); exact BK181.out⟩, ⟨by (with_reducible repeat (first | refine blk_drewN ?_ _ | refine blk_drew ?_ | refine blk_alloc ?_ _)); refine blk_put (cs := #[.int .i64 ((rd_T60 l0_1 x55_2).f0), .int .i64 ((rd_T60 l0_1 x55_2).f1), .int .i64 ((rd_T60 l0_1 x55_2).f2), .int .i64 0]) ?_ 3 _ rfl; (with_reducible repeat (first | refine blk_drewN ?_ _ | refine blk_drew ?_ | refine blk_alloc ?_ _)); refine blk_put (cs := #[.int .i64 ((rd_T60 l0_1 x55_2).f0), .int .i64 ((rd_T60 l0_1 x55_2).f1), .int .i64 0, .int .i64 0]) ?_ 2 _ rfl; (with_reducible repeat (first | refine blk_drewN ?_ _ | refine blk_drew ?_ | refine blk_alloc ?_ _)); refine blk_put (cs := #[.int .i64 ((rd_T60 l0_1 x55_2).f0), .int .i64 0, .int .i64 0, .int .i64 0]) ?_ 1 _ rfl; (with_reducible repeat (first | refine blk_drewN ?_ _ | refine blk_drew ?_ | refine blk_alloc ?_ _)); refine blk_put (cs := #[.int .i64 0, .int .i64 0, .int .i64 0, .int .i64 0]) ?_ 0 _ rfl; (with_reducible repeat (first | refine blk_drewN ?_ _ | refine blk_drew ?_ | refine blk_alloc ?_ _)); exact BK196.out⟩, ⟨by repeat (first | (with_reducible first | exact HB.out | apply below_alloc | apply pw_below_drewN | apply below_drew1 | refine below_set ?_ GE181.out | refine below_set ?_ GE196.out) | exact HB.out)⟩⟩
      rw [if_neg c40] at H
      have c40b0 : decide ((ji39) < 0) = false := decide_eq_false c40
      clear c40
      (first | rw [c40b0] | (simp only [i64_w, i32_w]; rw [c40b0]) | skip)
      obtain ⟨ji43, hji43⟩ : ∃ j_ : Int, (mx ((rd_T60 l0_1 x55_2).f2) ((rd_T60 l0_1 x55_2).f3)) = j_ := ⟨_, rfl⟩
      replace H : (sequence_CheckK.j2 k2 x8_2 x9_2 x55_2 l0_1 (l0_1.length : Int) x55_2 (decide ((ji43) ≥ (l0_0.length : Int))) l0_0 l0_1 l0_2 l0_3 ((rd_T60 l0_1 x55_2).f0) ((rd_T60 l0_1 x55_2).f1) ((rd_T60 l0_1 x55_2).f2) ((rd_T60 l0_1 x55_2).f3)) = some (r1, r2) := by first | (rw [hji43] at H; exact H) | (simp only [hji43] at H ⊢; exact H)
      have hji43_ : (if ((rd_T60 l0_1 x55_2).f2) < ((rd_T60 l0_1 x55_2).f3) then ((rd_T60 l0_1 x55_2).f3) else ((rd_T60 l0_1 x55_2).f2)) = ji43 := hji43
      have H' := Aside0.mk H
      clear H; have hnb44 := NB196_181.out; have hnc44 := NB181_196.out
      have hcz45_0 : w36.cell? ⟨gb196, 0, none⟩ = some (.int .i64 0) := (blk_cell BK196.out 0).trans rfl
      have hcz45_1 : w36.cell? ⟨gb196, 1, none⟩ = some (.int .i64 0) := (blk_cell BK196.out 1).trans rfl
      have hcz45_2 : w36.cell? ⟨gb196, 2, none⟩ = some (.int .i64 0) := (blk_cell BK196.out 2).trans rfl
      have hcz45_3 : w36.cell? ⟨gb196, 3, none⟩ = some (.int .i64 0) := (blk_cell BK196.out 3).trans rfl
      have hfz45_0 := blk_frozen BK196.out 0
      have hfz45_1 := blk_frozen BK196.out 1
      have hfz45_2 := blk_frozen BK196.out 2
      have hfz45_3 := blk_frozen BK196.out 3
      have hcz46_0 : w36.cell? ⟨gb181, 0, none⟩ = some (.slice A0_0 l0_0.length c0_0) := (blk_cell BK181.out 0).trans rfl
      have hcz46_1 : w36.cell? ⟨gb181, 1, none⟩ = some (.slice (some ad195) l0_1.length c0_1) := (blk_cell BK181.out 1).trans rfl
      have hcz46_2 : w36.cell? ⟨gb181, 2, none⟩ = some (.slice A0_2 l0_2.length c0_2) := (blk_cell BK181.out 2).trans rfl
      have hcz46_3 : w36.cell? ⟨gb181, 3, none⟩ = some (.slice A0_3 l0_3.length c0_3) := (blk_cell BK181.out 3).trans rfl
      have hfz46_0 := blk_frozen BK181.out 0
      have hfz46_1 := blk_frozen BK181.out 1
      have hfz46_2 := blk_frozen BK181.out 2
      have hfz46_3 := blk_frozen BK181.out 3
      go_wp2
      go_meet
      case rel => exact ⟨_, (decide ((ji43) ≥ (l0_0.length : Int))), (by first | rfl | (simp; done) | (simp only [← hji43] <;> (first | rfl | simp)) | (simp [*]; done)), H', ⟨by have := HK1.out; have := HK2.out; first | omega | exact Nat.le_refl _⟩, ⟨by (with_reducible repeat (first | apply Kd.R_alloc | apply Kd.R_drewN | apply Kd.R_drew)); exact Kd.R_mono (Kd.R_far (p := ⟨gb196, 3, none⟩) (Kd.R_far (p := ⟨gb196, 2, none⟩) (Kd.R_far (p := ⟨gb196, 1, none⟩) (Kd.R_far (p := ⟨gb196, 0, none⟩) (Kd.R_types HO_8.out BK196.out (by decide)) (fun _ hk => hk.2) (.int .i64 ((rd_T60 l0_1 x55_2).f0))) (fun _ hk => hk.2) (.int .i64 ((rd_T60 l0_1 x55_2).f1))) (fun _ hk => hk.2) (.int .i64 ((rd_T60 l0_1 x55_2).f2))) (fun _ hk => hk.2) (.int .i64 ((rd_T60 l0_1 x55_2).f3))) (fun _ hk => hk.1)⟩, ⟨by (with_reducible repeat (first | apply Kd.R_alloc | apply Kd.R_drewN | apply Kd.R_drew)); exact Kd.R_mono (Kd.R_far (p := ⟨gb196, 3, none⟩) (Kd.R_far (p := ⟨gb196, 2, none⟩) (Kd.R_far (p := ⟨gb196, 1, none⟩) (Kd.R_far (p := ⟨gb196, 0, none⟩) (Kd.R_types HO_9.out BK196.out (by decide)) (fun _ hk => hk.2) (.int .i64 ((rd_T60 l0_1 x55_2).f0))) (fun _ hk => hk.2) (.int .i64 ((rd_T60 l0_1 x55_2).f1))) (fun _ hk => hk.2) (.int .i64 ((rd_T60 l0_1 x55_2).f2))) (fun _ hk => hk.2) (.int .i64 ((rd_T60 l0_1 x55_2).f3))) (fun _ hk => hk.1)⟩, ⟨by (with_reducible repeat (first | refine blk_drewN ?_ _ | refine blk_drew ?_ | refine blk_alloc ?_ _)); refine blk_far ?_ NB181_196.out _; (with_reducible repeat (first | refine blk_drewN ?_ _ | refine blk_drew ?_ | refine blk_alloc ?_ _)); refine blk_far ?_ NB181_196.out _; (with_reducible repeat (first | refine blk_drewN ?_ _ | refine blk_drew ?_ | refine blk_alloc ?_ _)); refine blk_far ?_ NB181_196.out _; (with_reducible repeat (first | refine blk_drewN ?_ _ | refine blk_drew ?_ | refine blk_alloc ?_ _)); refine blk_far ?_ NB181_196.out _; (with_reducible repeat (first | refine blk_drewN ?_ _ | refine blk_drew ?_ | refine blk_alloc ?_ _)); exact BK181.out⟩, ⟨by (with_reducible repeat (first | refine blk_drewN ?_ _ | refine blk_drew ?_ | refine blk_alloc ?_ _)); refine blk_put (cs := #[.int .i64 ((rd_T60 l0_1 x55_2).f0), .int .i64 ((rd_T60 l0_1 x55_2).f1), .int .i64 ((rd_T60 l0_1 x55_2).f2), .int .i64 0]) ?_ 3 _ rfl; (with_reducible repeat (first | refine blk_drewN ?_ _ | refine blk_drew ?_ | refine blk_alloc ?_ _)); refine blk_put (cs := #[.int .i64 ((rd_T60 l0_1 x55_2).f0), .int .i64 ((rd_T60 l0_1 x55_2).f1), .int .i64 0, .int .i64 0]) ?_ 2 _ rfl; (with_reducible repeat (first | refine blk_drewN ?_ _ | refine blk_drew ?_ | refine blk_alloc ?_ _)); refine blk_put (cs := #[.int .i64 ((rd_T60 l0_1 x55_2).f0), .int .i64 0, .int .i64 0, .int .i64 0]) ?_ 1 _ rfl; (with_reducible repeat (first | refine blk_drewN ?_ _ | refine blk_drew ?_ | refine blk_alloc ?_ _)); refine blk_put (cs := #[.int .i64 0, .int .i64 0, .int .i64 0, .int .i64 0]) ?_ 0 _ rfl; (with_reducible repeat (first | refine blk_drewN ?_ _ | refine blk_drew ?_ | refine blk_alloc ?_ _)); exact BK196.out⟩, ⟨by repeat (first | (with_reducible first | exact HB.out | apply below_alloc | apply pw_below_drewN | apply below_drew1 | refine below_set ?_ GE181.out | refine below_set ?_ GE196.out) | exact HB.out)⟩⟩
     case rest =>
      clear HC35; (try clear c1); (try clear p1); (try clear q1); (try clear hx1); (try clear c2); (try clear p2); (try clear c3); (try clear c4); (try clear c4b0); (try clear c4b1); (try clear p6); (try clear c9); (try clear c9b0); (try clear c10); (try clear c10b0); (try clear c11); (try clear c11b0); (try clear c12); (try clear c14); (try clear c18); (try clear c18b0); (try clear p18); (try clear q18); (try clear hx18); (try clear p19); (try clear q19); (try clear hx19); (try clear c21); (try clear c21b0); (try clear c21b1); (try clear c22); (try clear c22b0); (try clear c22b1); (try clear c25); (try clear c32); (try clear c32b0); (try clear c33); (try clear c33b0); (try clear c34); (try clear c34b0)
      (try clear c36); (try clear c37); (try clear c40); (try clear c40b0); (try clear c41); (try clear c44); (try clear hcz15_0); (try clear hcz15_1); (try clear hcz15_2); (try clear hcz15_3); (try clear hcz31_0); (try clear hcz31_1); (try clear hcz31_2); (try clear hcz31_3); (try clear hcz38_0); (try clear hcz38_1); (try clear hcz38_2); (try clear hcz38_3); (try clear hcz42_0); (try clear hcz42_1); (try clear hcz42_2); (try clear hcz42_3); (try clear hcz45_0); (try clear hcz45_1); (try clear hcz45_2); (try clear hcz45_3); (try clear hcz46_0); (try clear hcz46_1); (try clear hcz46_2); (try clear hcz46_3); (try clear hcz6_0); (try clear hcz6_1); (try clear hcz6_2); (try clear hcz6_3); (try clear hcz8_0)
      (try clear hcz8_1); (try clear hcz8_2); (try clear hcz8_3); (try clear hfz15_0); (try clear hfz15_1); (try clear hfz15_2); (try clear hfz15_3); (try clear hfz31_0); (try clear hfz31_1); (try clear hfz31_2); (try clear hfz31_3); (try clear hfz38_0); (try clear hfz38_1); (try clear hfz38_2); (try clear hfz38_3); (try clear hfz42_0); (try clear hfz42_1); (try clear hfz42_2); (try clear hfz42_3); (try clear hfz45_0); (try clear hfz45_1); (try clear hfz45_2); (try clear hfz45_3); (try clear hfz46_0); (try clear hfz46_1); (try clear hfz46_2); (try clear hfz46_3); (try clear hfz6_0); (try clear hfz6_1); (try clear hfz6_2); (try clear hfz6_3); (try clear hfz8_0); (try clear hfz8_1); (try clear hfz8_2)
      (try clear hfz8_3); (try clear hx183_0); (try clear hx183_1); (try clear hx183_2); (try clear hx183_3); (try clear hx195_0); (try clear hx195_1); (try clear hx195_2); (try clear hx195_3); (try clear p1); (try clear p18); (try clear p183); (try clear p195); (try clear p2); (try clear p6); (try clear q1); (try clear q18); (try clear q183); (try clear q195)
      obtain ⟨kq, x76_34, rfl, HA, HJ34, HO_8, HO_9, BK181, BK196, HB⟩ := hcut
      cases kq with
      | zero => exact absurd HA.out (by simp [sequence_CheckK.j2])
      | succ kj34 =>
       have H := HA.out; clear HA
       simp only [sequence_CheckK.j2] at H
       by_cases c47 : x76_34 = true
       ·subst c47
        have H1 : (some (x55_2, 282)) = some (r1, r2) := by rw [if_pos rfl] at H; exact H
        clear H; have H := H1; clear H1
        simp only [Option.some.injEq, Prod.mk.injEq] at H
        obtain ⟨rfl, rfl⟩ := H
        go_wp2
        go_ret2
        exact ⟨by first | rfl | (simp [errW_none, errW_some] <;> rfl) | (simp [*, errW_none, errW_some] <;> rfl), by repeat (first | (with_reducible first | exact HB.out | apply below_alloc | apply pw_below_drewN | apply below_drew1 | refine below_set ?_ GE181.out | refine below_set ?_ GE196.out) | exact HB.out)⟩
       replace c47 := Bool.eq_false_iff.mpr c47
       subst c47
       have H1 : (if x55_2 > 0 then (if 0 ≤ (wrap64 (x55_2 - 1)) then (if (wrap64 (x55_2 - 1)) < (l0_1.length : Int) then (if ((rd_T60 l0_1 x55_2).f3) < ((rd_T60 l0_1 (wrap64 (x55_2 - 1))).f3) then (some (x55_2, 282)) else (if ((rd_T60 l0_1 x55_2).f3) = ((rd_T60 l0_1 (wrap64 (x55_2 - 1))).f3) then (if ((rd_T60 l0_1 x55_2).f2) ≤ ((rd_T60 l0_1 (wrap64 (x55_2 - 1))).f2) then (some (x55_2, 282)) else (if 0 ≤ ((rd_T60 l0_1 x55_2).f2) then (if ((rd_T60 l0_1 x55_2).f2) < (x8_2.length : Int) then (if 0 ≤ ((rd_T60 l0_1 x55_2).f3) then (if ((rd_T60 l0_1 x55_2).f3) < (x9_2.length : Int) then (sequence_CheckK.l1 kj34 (x8_2.set (((rd_T60 l0_1 x55_2).f2) : Int).toNat (wrap64 ((rd x8_2 ((rd_T60 l0_1 x55_2).f2)) + ((rd_T60 l0_1 x55_2).f1)))) (x9_2.set (((rd_T60 l0_1 x55_2).f3) : Int).toNat (wrap64 ((rd x9_2 ((rd_T60 l0_1 x55_2).f3)) + ((rd_T60 l0_1 x55_2).f1)))) l0_1 (l0_1.length : Int) (wrap64 (x55_2 + 1)) l0_0 l0_1 l0_2 l0_3) else (none)) else (none)) else (none)) else (none))) else (if 0 ≤ ((rd_T60 l0_1 x55_2).f2) then (if ((rd_T60 l0_1 x55_2).f2) < (x8_2.length : Int) then (if 0 ≤ ((rd_T60 l0_1 x55_2).f3) then (if ((rd_T60 l0_1 x55_2).f3) < (x9_2.length : Int) then (sequence_CheckK.l1 kj34 (x8_2.set (((rd_T60 l0_1 x55_2).f2) : Int).toNat (wrap64 ((rd x8_2 ((rd_T60 l0_1 x55_2).f2)) + ((rd_T60 l0_1 x55_2).f1)))) (x9_2.set (((rd_T60 l0_1 x55_2).f3) : Int).toNat (wrap64 ((rd x9_2 ((rd_T60 l0_1 x55_2).f3)) + ((rd_T60 l0_1 x55_2).f1)))) l0_1 (l0_1.length : Int) (wrap64 (x55_2 + 1)) l0_0 l0_1 l0_2 l0_3) else (none)) else (none)) else (none)) else (none)))) else (none)) else (none)) else (if 0 ≤ ((rd_T60 l0_1 x55_2).f2) then (if ((rd_T60 l0_1 x55_2).f2) < (x8_2.length : Int) then (if 0 ≤ ((rd_T60 l0_1 x55_2).f3) then (if ((rd_T60 l0_1 x55_2).f3) < (x9_2.length : Int) then (sequence_CheckK.l1 kj34 (x8_2.set (((rd_T60 l0_1 x55_2).f2) : Int).toNat (wrap64 ((rd x8_2 ((rd_T60 l0_1 x55_2).f2)) + ((rd_T60 l0_1 x55_2).f1)))) (x9_2.set (((rd_T60 l0_1 x55_2).f3) : Int).toNat (wrap64 ((rd x9_2 ((rd_T60 l0_1 x55_2).f3)) + ((rd_T60 l0_1 x55_2).f1)))) l0_1 (l0_1.length : Int) (wrap64 (x55_2 + 1)) l0_0 l0_1 l0_2 l0_3) else (none)) else (none)) else (none)) else (none))) = some (r1, r2) := by rw [if_neg (show ¬ (false = true) by decide)] at H; exact H
       clear H; have H := H1; clear H1
       by_cases c48 : x55_2 > 0
       rotate_left
       ·rw [if_neg c48] at H
        have c48b0 : decide (0 < x55_2) = false := decide_eq_false c48
        clear c48
        by_cases c85 : 0 ≤ ((rd_T60 l0_1 x55_2).f2)
        rotate_left
        ·rw [if_neg c85] at H
         exact absurd H (by simp)
        rw [if_pos c85] at H
        have c85b0 : decide (0 ≤ ((rd_T60 l0_1 x55_2).f2)) = true := decide_eq_true c85
        clear c85
        by_cases c86 : ((rd_T60 l0_1 x55_2).f2) < (x8_2.length : Int)
        rotate_left
        ·rw [if_neg c86] at H
         exact absurd H (by simp)
        rw [if_pos c86] at H
        have c86b0 : decide (((rd_T60 l0_1 x55_2).f2) < (x8_2.length : Int)) = true := decide_eq_true c86
        clear c86
        obtain ⟨y209, hy209⟩ : ∃ y_ : List Int, y_ = (x8_2.set (((rd_T60 l0_1 x55_2).f2) : Int).toNat (wrap64 ((rd x8_2 ((rd_T60 l0_1 x55_2).f2)) + ((rd_T60 l0_1 x55_2).f1)))) := ⟨_, rfl⟩
        replace H : (if 0 ≤ ((rd_T60 l0_1 x55_2).f3) then (if ((rd_T60 l0_1 x55_2).f3) < (x9_2.length : Int) then (sequence_CheckK.l1 kj34 y209 (x9_2.set (((rd_T60 l0_1 x55_2).f3) : Int).toNat (wrap64 ((rd x9_2 ((rd_T60 l0_1 x55_2).f3)) + ((rd_T60 l0_1 x55_2).f1)))) l0_1 (l0_1.length : Int) (wrap64 (x55_2 + 1)) l0_0 l0_1 l0_2 l0_3) else (none)) else (none)) = some (r1, r2) := by first | (rw [hy209]; with_reducible exact H) | (have H2_ := (Option.bind_some _ _).symm.trans H; rw [hy209]; with_reducible exact H2_) | (have H2_ := (Option.bind_some _ _).symm.trans H; with_reducible exact H2_) | with_reducible exact H | (rw [hy209]; exact H) | exact H
        have Ny209 := Aside0.mk hy209
        clear hy209
        by_cases c88 : 0 ≤ ((rd_T60 l0_1 x55_2).f3)
        rotate_left
        ·rw [if_neg c88] at H
         exact absurd H (by simp)
        rw [if_pos c88] at H
        have c88b0 : decide (0 ≤ ((rd_T60 l0_1 x55_2).f3)) = true := decide_eq_true c88
        clear c88
        by_cases c89 : ((rd_T60 l0_1 x55_2).f3) < (x9_2.length : Int)
        rotate_left
        ·rw [if_neg c89] at H
         exact absurd H (by simp)
        rw [if_pos c89] at H
        have c89b0 : decide (((rd_T60 l0_1 x55_2).f3) < (x9_2.length : Int)) = true := decide_eq_true c89
        clear c89
        obtain ⟨y211, hy211⟩ : ∃ y_ : List Int, y_ = (x9_2.set (((rd_T60 l0_1 x55_2).f3) : Int).toNat (wrap64 ((rd x9_2 ((rd_T60 l0_1 x55_2).f3)) + ((rd_T60 l0_1 x55_2).f1)))) := ⟨_, rfl⟩
        replace H : (sequence_CheckK.l1 kj34 y209 y211 l0_1 (l0_1.length : Int) (wrap64 (x55_2 + 1)) l0_0 l0_1 l0_2 l0_3) = some (r1, r2) := by first | (rw [hy211]; with_reducible exact H) | (have H2_ := (Option.bind_some _ _).symm.trans H; rw [hy211]; with_reducible exact H2_) | (have H2_ := (Option.bind_some _ _).symm.trans H; with_reducible exact H2_) | with_reducible exact H | (rw [hy211]; exact H) | exact H
        have Ny211 := Aside0.mk hy211
        clear hy211
        have H' := Aside0.mk H
        clear H
        try go_wp2
        have n0_ := Aside0.mk (Kd.R_drew HO_8.out)
        have n1_ := Aside0.mk (Kd.R_drew HO_9.out)
        have n2_ := Aside0.mk (blk_drew BK181.out)
        have n3_ := Aside0.mk (blk_drew BK196.out)
        have n4_ := Aside0.mk (below_drew1 HB.out)
        clear HO_8; clear HO_9; clear BK181; clear BK196; clear HB; have HO_8 := n0_; have HO_9 := n1_; have BK181 := n2_; have BK196 := n3_; have HB := n4_; clear n0_ n1_ n2_ n3_ n4_
        refine start_ (n := 38) (S := fun w' => True) (ds := []) #[false, false, false, false, false, false, false, false, false, false, false, false, false, false, false, false, false, false, false, false, false, false, false, false, false, false, false, false, false, false, false, false, false, false, false, false, false, false] (by kernel_rfl) rfl rfl trivial (fun hHeld => ?_); refine with_tabW sequence_CheckK.tab20 sequence_CheckK.bits20 (fun HT_ HW_ => ?_)
        generalize wc.drew = w91 at HO_8 HO_9 BK181 BK196 HB hHeld ⊢
        refine pure_ (i := 0) (N := some 78) (v := ?_) (a' := ?_) zc12_ rfl rfl (any_of HT_.out (by kernel_rfl)) (fun _ _ _ h => h) (Or.inl ⟨by rfl, ?_⟩) ?_ ?_; rotate_left; (·(intro w'; go_simp; with_reducible rfl)); rotate_left; (·(simp only [q1,q2,q3,q4,q5,q6,q7]; rfl))
        refine pure_ (i := 1) (N := some 79) (v := ?_) (a' := ?_) zc13_ rfl rfl (any_of HT_.out (by kernel_rfl)) (fun _ _ _ h => h) (Or.inl ⟨by rfl, ?_⟩) ?_ ?_; rotate_left; (·(intro w'; go_simp; with_reducible rfl)); rotate_left; (·(simp only [q1,q2,q3,q4,q5,q6,q7]; rfl))
        refine pure_ (i := 2) (N := some 80) (v := ?_) (a' := ?_) zc14_ rfl rfl (any_of HT_.out (by kernel_rfl)) (fun _ _ _ h => h) (Or.inl ⟨by rfl, ?_⟩) ?_ ?_; rotate_left; (·(intro w'; go_simp; with_reducible rfl)); rotate_left; (·(simp only [q1,q2,q3,q4,q5,q6,q7]; rfl))
        refine pure_ (i := 3) (N := some 81) (v := undef) (a' := ?_) zc15_ rfl rfl (any_of HT_.out (by kernel_rfl)) (fun _ _ _ h => h) (Or.inr ⟨by rfl, rfl⟩) ?_ ?_; rotate_left; (·(simp only [q1,q2,q3,q4,q5,q6,q7]; rfl))
        refine pure_ (i := 4) (N := some 82) (v := undef) (a' := ?_) zc63_ rfl rfl (any_of HT_.out (by kernel_rfl)) (fun _ _ _ h => h) (Or.inr ⟨by rfl, rfl⟩) ?_ ?_; rotate_left; (·(simp only [q1,q2,q3,q4,q5,q6,q7]; rfl))
        refine pure_ (i := 5) (N := some 83) (v := undef) (a' := ?_) zc64_ rfl rfl (any_of HT_.out (by kernel_rfl)) (fun _ _ _ h => h) (Or.inr ⟨by rfl, rfl⟩) ?_ ?_; rotate_left; (·(simp only [q1,q2,q3,q4,q5,q6,q7]; rfl))
        refine pure_ (i := 6) (N := some 84) (v := undef) (a' := ?_) zc65_ rfl rfl (any_of HT_.out (by kernel_rfl)) (fun _ _ _ h => h) (Or.inr ⟨by rfl, rfl⟩) ?_ ?_; rotate_left; (·(simp only [q1,q2,q3,q4,q5,q6,q7]; rfl))
        refine pure_ (i := 7) (N := some 85) (v := undef) (a' := ?_) zc66_ rfl rfl (any_of HT_.out (by kernel_rfl)) (fun _ _ _ h => h) (Or.inr ⟨by rfl, rfl⟩) ?_ ?_; rotate_left; (·(simp only [q1,q2,q3,q4,q5,q6,q7]; rfl))
        refine pure_ (i := 8) (N := some 86) (v := undef) (a' := ?_) zc20_ rfl rfl (any_of HT_.out (by kernel_rfl)) (fun _ _ _ h => h) (Or.inr ⟨by rfl, rfl⟩) ?_ ?_; rotate_left; (·(simp only [q1,q2,q3,q4,q5,q6,q7]; rfl))
        refine pure_ (i := 9) (N := some 87) (v := undef) (a' := ?_) zc21_ rfl rfl (any_of HT_.out (by kernel_rfl)) (fun _ _ _ h => h) (Or.inr ⟨by rfl, rfl⟩) ?_ ?_; rotate_left; (·(simp only [q1,q2,q3,q4,q5,q6,q7]; rfl))
        refine pure_ (i := 10) (N := some 88) (v := undef) (a' := ?_) zc22_ rfl rfl (any_of HT_.out (by kernel_rfl)) (fun _ _ _ h => h) (Or.inr ⟨by rfl, rfl⟩) ?_ ?_; rotate_left; (·(simp only [q1,q2,q3,q4,q5,q6,q7]; rfl))
        refine pure_ (i := 11) (N := some 89) (v := undef) (a' := ?_) zc23_ rfl rfl (any_of HT_.out (by kernel_rfl)) (fun _ _ _ h => h) (Or.inr ⟨by rfl, rfl⟩) ?_ ?_; rotate_left; (·(simp only [q1,q2,q3,q4,q5,q6,q7]; rfl))
        refine pure_ (i := 12) (N := some 90) (v := undef) (a' := ?_) zc24_ rfl rfl (any_of HT_.out (by kernel_rfl)) (fun _ _ _ h => h) (Or.inr ⟨by rfl, rfl⟩) ?_ ?_; rotate_left; (·(simp only [q1,q2,q3,q4,q5,q6,q7]; rfl))
        refine pure_ (i := 13) (N := some 91) (v := undef) (a' := ?_) zc25_ rfl rfl (any_of HT_.out (by kernel_rfl)) (fun _ _ _ h => h) (Or.inr ⟨by rfl, rfl⟩) ?_ ?_; rotate_left; (·(simp only [q1,q2,q3,q4,q5,q6,q7]; rfl))
        refine pure_ (i := 14) (N := some 92) (v := undef) (a' := ?_) zc26_ rfl rfl (any_of HT_.out (by kernel_rfl)) (fun _ _ _ h => h) (Or.inr ⟨by rfl, rfl⟩) ?_ ?_; rotate_left; (·(simp only [q1,q2,q3,q4,q5,q6,q7]; rfl))
        refine pure_ (i := 15) (N := some 93) (v := undef) (a' := ?_) zc27_ rfl rfl (any_of HT_.out (by kernel_rfl)) (fun _ _ _ h => h) (Or.inr ⟨by rfl, rfl⟩) ?_ ?_; rotate_left; (·(simp only [q1,q2,q3,q4,q5,q6,q7]; rfl))
        refine pure_ (i := 16) (N := some 94) (v := undef) (a' := ?_) zc28_ rfl rfl (any_of HT_.out (by kernel_rfl)) (fun _ _ _ h => h) (Or.inr ⟨by rfl, rfl⟩) ?_ ?_; rotate_left; (·(simp only [q1,q2,q3,q4,q5,q6,q7]; rfl))
        refine pure_ (i := 17) (N := some 95) (v := undef) (a' := ?_) zc29_ rfl rfl (any_of HT_.out (by kernel_rfl)) (fun _ _ _ h => h) (Or.inr ⟨by rfl, rfl⟩) ?_ ?_; rotate_left; (·(simp only [q1,q2,q3,q4,q5,q6,q7]; rfl))
        refine pure_ (i := 18) (N := some 96) (v := undef) (a' := ?_) zc30_ rfl rfl (any_of HT_.out (by kernel_rfl)) (fun _ _ _ h => h) (Or.inr ⟨by rfl, rfl⟩) ?_ ?_; rotate_left; (·(simp only [q1,q2,q3,q4,q5,q6,q7]; rfl))
        refine pure_ (i := 19) (N := some 97) (v := undef) (a' := ?_) zc31_ rfl rfl (any_of HT_.out (by kernel_rfl)) (fun _ _ _ h => h) (Or.inr ⟨by rfl, rfl⟩) ?_ ?_; rotate_left; (·(simp only [q1,q2,q3,q4,q5,q6,q7]; rfl))
        refine pure_ (i := 20) (N := some 98) (v := undef) (a' := ?_) zc32_ rfl rfl (any_of HT_.out (by kernel_rfl)) (fun _ _ _ h => h) (Or.inr ⟨by rfl, rfl⟩) ?_ ?_; rotate_left; (·(simp only [q1,q2,q3,q4,q5,q6,q7]; rfl))
        refine pure_ (i := 21) (N := some 99) (v := undef) (a' := ?_) zc33_ rfl rfl (any_of HT_.out (by kernel_rfl)) (fun _ _ _ h => h) (Or.inr ⟨by rfl, rfl⟩) ?_ ?_; rotate_left; (·(simp only [q1,q2,q3,q4,q5,q6,q7]; rfl))
        refine pure_ (i := 22) (N := some 100) (v := undef) (a' := ?_) zc34_ rfl rfl (any_of HT_.out (by kernel_rfl)) (fun _ _ _ h => h) (Or.inr ⟨by rfl, rfl⟩) ?_ ?_; rotate_left; (·(simp only [q1,q2,q3,q4,q5,q6,q7]; rfl))
        refine pure_ (i := 23) (N := some 101) (v := undef) (a' := ?_) zc35_ rfl rfl (any_of HT_.out (by kernel_rfl)) (fun _ _ _ h => h) (Or.inr ⟨by rfl, rfl⟩) ?_ ?_; rotate_left; (·(simp only [q1,q2,q3,q4,q5,q6,q7]; rfl))
        refine pure_ (i := 24) (N := some 102) (v := undef) (a' := ?_) zc36_ rfl rfl (any_of HT_.out (by kernel_rfl)) (fun _ _ _ h => h) (Or.inr ⟨by rfl, rfl⟩) ?_ ?_; rotate_left; (·(simp only [q1,q2,q3,q4,q5,q6,q7]; rfl))
        refine pure_ (i := 25) (N := some 103) (v := undef) (a' := ?_) zc37_ rfl rfl (any_of HT_.out (by kernel_rfl)) (fun _ _ _ h => h) (Or.inr ⟨by rfl, rfl⟩) ?_ ?_; rotate_left; (·(simp only [q1,q2,q3,q4,q5,q6,q7]; rfl))
        refine pure_ (i := 26) (N := some 104) (v := undef) (a' := ?_) zc38_ rfl rfl (any_of HT_.out (by kernel_rfl)) (fun _ _ _ h => h) (Or.inr ⟨by rfl, rfl⟩) ?_ ?_; rotate_left; (·(simp only [q1,q2,q3,q4,q5,q6,q7]; rfl))
        refine pure_ (i := 27) (N := some 105) (v := undef) (a' := ?_) zc39_ rfl rfl (any_of HT_.out (by kernel_rfl)) (fun _ _ _ h => h) (Or.inr ⟨by rfl, rfl⟩) ?_ ?_; rotate_left; (·(simp only [q1,q2,q3,q4,q5,q6,q7]; rfl))
        refine pure_ (i := 28) (N := some 106) (v := undef) (a' := ?_) zc40_ rfl rfl (any_of HT_.out (by kernel_rfl)) (fun _ _ _ h => h) (Or.inr ⟨by rfl, rfl⟩) ?_ ?_; rotate_left; (·(simp only [q1,q2,q3,q4,q5,q6,q7]; rfl))
        refine pure_ (i := 29) (N := some 107) (v := undef) (a' := ?_) zc41_ rfl rfl (any_of HT_.out (by kernel_rfl)) (fun _ _ _ h => h) (Or.inr ⟨by rfl, rfl⟩) ?_ ?_; rotate_left; (·(simp only [q1,q2,q3,q4,q5,q6,q7]; rfl))
        refine pure_ (i := 30) (N := some 108) (v := undef) (a' := ?_) zc42_ rfl rfl (any_of HT_.out (by kernel_rfl)) (fun _ _ _ h => h) (Or.inr ⟨by rfl, rfl⟩) ?_ ?_; rotate_left; (·(simp only [q1,q2,q3,q4,q5,q6,q7]; rfl))
        refine pure_ (i := 31) (N := some 109) (v := undef) (a' := ?_) zc43_ rfl rfl (any_of HT_.out (by kernel_rfl)) (fun _ _ _ h => h) (Or.inr ⟨by rfl, rfl⟩) ?_ ?_; rotate_left; (·(simp only [q1,q2,q3,q4,q5,q6,q7]; rfl))
        refine pure_ (i := 32) (N := some 110) (v := undef) (a' := ?_) zc44_ rfl rfl (any_of HT_.out (by kernel_rfl)) (fun _ _ _ h => h) (Or.inr ⟨by rfl, rfl⟩) ?_ ?_; rotate_left; (·(simp only [q1,q2,q3,q4,q5,q6,q7]; rfl))
        refine pure_ (i := 33) (N := some 111) (v := undef) (a' := ?_) zc45_ rfl rfl (any_of HT_.out (by kernel_rfl)) (fun _ _ _ h => h) (Or.inr ⟨by rfl, rfl⟩) ?_ ?_; rotate_left; (·(simp only [q1,q2,q3,q4,q5,q6,q7]; rfl))
        refine pure_ (i := 34) (N := some 112) (v := undef) (a' := ?_) zc46_ rfl rfl (any_of HT_.out (by kernel_rfl)) (fun _ _ _ h => h) (Or.inr ⟨by rfl, rfl⟩) ?_ ?_; rotate_left; (·(simp only [q1,q2,q3,q4,q5,q6,q7]; rfl))
        refine pure_ (i := 35) (N := some 113) (v := undef) (a' := ?_) zc47_ rfl rfl (any_of HT_.out (by kernel_rfl)) (fun _ _ _ h => h) (Or.inr ⟨by rfl, rfl⟩) ?_ ?_; rotate_left; (·(simp only [q1,q2,q3,q4,q5,q6,q7]; rfl))
        refine pure_ (i := 36) (N := some 114) (v := undef) (a' := ?_) zc48_ rfl rfl (any_of HT_.out (by kernel_rfl)) (fun _ _ _ h => h) (Or.inr ⟨by rfl, rfl⟩) ?_ ?_; rotate_left; (·(simp only [q1,q2,q3,q4,q5,q6,q7]; rfl))
        refine pure_ (i := 37) (N := some 115) (v := ?_) (a' := ?_) zc49_ rfl rfl (any_of HT_.out (by kernel_rfl)) (fun _ _ _ h => h) (Or.inl ⟨by rfl, ?_⟩) ?_ ?_; rotate_left; (·(intro w'; go_simp; with_reducible rfl)); rotate_left; (·(simp only [q1,q2,q3,q4,q5,q6,q7]; rfl))
        refine done_ (done_of HT_.out (by kernel_rfl)) ?_
        try go_wp2
        have n0_ := Aside0.mk (Kd.R_drew HO_8.out)
        have n1_ := Aside0.mk (Kd.R_drew HO_9.out)
        have n2_ := Aside0.mk (blk_drew BK181.out)
        have n3_ := Aside0.mk (blk_drew BK196.out)
        have n4_ := Aside0.mk (below_drew1 HB.out)
        clear HO_8; clear HO_9; clear BK181; clear BK196; clear HB; have HO_8 := n0_; have HO_9 := n1_; have BK181 := n2_; have BK196 := n3_; have HB := n4_; clear n0_ n1_ n2_ n3_ n4_
        obtain ⟨Ao93, co93, eo93⟩ := Kd.R_slice HO_8.out
        (first | subst eo93 | (injection eo93 with f1_ f2_ f3_; have f4_ := f1_.symm; have f5_ := f3_.symm; clear f1_ f2_ f3_; subst f4_; subst f5_))
        have p208 : 0 ≤ (((rd_T60 l0_1 x55_2).f2) : Int) := of_decide_eq_true (by first | (with_reducible assumption) | assumption)
        have q208 : ((rd_T60 l0_1 x55_2).f2) < (x8_2.length : Int) := of_decide_eq_true (by first | (with_reducible assumption) | assumption)
        obtain ⟨ad208, e208, hx208_0⟩ := Kd.at_int (Kd.R_reads' HO_8.out).2.2 ((rd_T60 l0_1 x55_2).f2) p208 q208
        cases e208
        replace p208 := eq_true p208
        replace q208 := eq_true q208
        have p87 : 0 ≤ (((rd_T60 l0_1 x55_2).f2) : Int) := of_decide_eq_true (by first | (with_reducible assumption) | assumption)
        have q87 : (((rd_T60 l0_1 x55_2).f2) : Int) < ((x8_2.length : Int) : Int) := of_decide_eq_true (by first | (with_reducible assumption) | assumption)
        obtain ⟨go87, co87, eo87, gb87, gl87, cl87, HG87⟩ := Kd.R_form HO_8.out (by omega)
        (first | cases eo87 | (injection eo87 with ea_ en_ ec_; (first | subst ea_ | (injection ea_ with ea_; subst ea_)); subst ec_; clear en_))
        have GB87 := Aside0.mk gb87
        have GG87 := Aside0.mk HG87
        clear gb87 gl87 HG87
        (first | simp only [add_plain] at hx208_0 | skip)
        obtain ⟨hx87_0, hf87_0⟩ := Kd.R_celln 0 HO_8.out (((rd_T60 l0_1 x55_2).f2) : Int) p87 q87
        replace p87 := eq_true p87
        replace q87 := eq_true q87
        have HP94 := Kd.R_putn HO_8.out (((rd_T60 l0_1 x55_2).f2) : Int) (wrap64 ((rd x8_2 ((rd_T60 l0_1 x55_2).f2)) + ((rd_T60 l0_1 x55_2).f1)))
        rw [← Ny209.out] at HP94
        have HQ94 := Aside0.mk HP94
        clear HP94
        refine start_ (n := 10) (S := fun w' => w'.cell? ⟨gb196, 0, none⟩ = some (.int .i64 ((rd_T60 l0_1 x55_2).f0)) ∧ w'.cell? ⟨gb196, 1, none⟩ = some (.int .i64 ((rd_T60 l0_1 x55_2).f1)) ∧ w'.cell? ⟨gb196, 2, none⟩ = some (.int .i64 ((rd_T60 l0_1 x55_2).f2)) ∧ w'.cell? ⟨gb196, 3, none⟩ = some (.int .i64 ((rd_T60 l0_1 x55_2).f3)) ∧ w'.cell? ⟨go87, ((rd_T60 l0_1 x55_2).f2).toNat, none⟩ = some (.int .i64 (rd x8_2 ((rd_T60 l0_1 x55_2).f2)))) (ds := [9]) #[false, false, false, false, false, false, false, false, false, false] (by kernel_rfl) rfl rfl ⟨(blk_cell BK196.out 0).trans rfl, (blk_cell BK196.out 1).trans rfl, (blk_cell BK196.out 2).trans rfl, (blk_cell BK196.out 3).trans rfl, hx208_0⟩ (fun hHeld => ?_); refine with_tabW sequence_CheckK.tab22 sequence_CheckK.bits22 (fun HT_ HW_ => ?_)
        generalize w91.drew = w92 at HO_8 HO_9 BK181 BK196 HB GG87 HQ94 hf87_0 hx208_0 hx87_0 hHeld ⊢
        refine pure_ (i := 0) (N := some 117) (v := ?_) (a' := ?_) zc0_ rfl rfl (any_of HT_.out (by kernel_rfl)) (fun _ _ _ h => h) (Or.inl ⟨by rfl, ?_⟩) ?_ ?_; rotate_left; (·(intro w'; go_simp; with_reducible rfl)); rotate_left; (·(simp only [q1,q2,q3,q4,q5,q6,q7]; rfl))
        refine pure_ (i := 1) (N := some 118) (v := ?_) (a' := ?_) zc58_ rfl rfl (any_of HT_.out (by kernel_rfl)) (fun _ _ _ h => h) (Or.inl ⟨by rfl, ?_⟩) ?_ ?_; rotate_left; (·(intro w'; go_simp; with_reducible rfl)); rotate_left; (·(simp only [q1,q2,q3,q4,q5,q6,q7]; rfl))
        refine pure_ (i := 5) (N := some 122) (v := ?_) (a' := ?_) zc59_ rfl rfl (any_of HT_.out (by kernel_rfl)) (fun _ _ _ h => h) (Or.inl ⟨by rfl, ?_⟩) ?_ ?_; rotate_left; (·(intro w'; go_simp; with_reducible rfl)); rotate_left; (·(simp only [q1,q2,q3,q4,q5,q6,q7]; rfl))
        refine take_ (i := 2) (N := some 119) (v := ?_) (a' := ?_) zc60_ rfl rfl (take_ofW HT_.out HW_.out (by kernel_rfl)) (fun _ _ _ h => h) (Or.inl ⟨by rfl, ?_⟩) hHeld ?_ ?_; rotate_left; (·(rintro w' ⟨s0, s1, s2, s3, s4⟩; go_simp; with_reducible rfl)); rotate_left; (·(simp only [q1,q2,q3,q4,q5,q6,q7]; rfl))
        refine pure_ (i := 3) (N := some 120) (v := ?_) (a' := ?_) zc61_ rfl rfl (any_of HT_.out (by kernel_rfl)) (fun _ _ _ h => h) (Or.inl ⟨by rfl, ?_⟩) ?_ ?_; rotate_left; (·(intro w'; go_simp; with_reducible rfl)); rotate_left; (·(simp only [q1,q2,q3,q4,q5,q6,q7]; rfl))
        refine take_ (i := 4) (N := some 121) (v := ?_) (a' := ?_) zc62_ rfl rfl (take_ofW HT_.out HW_.out (by kernel_rfl)) (fun _ _ _ h => h) (Or.inl ⟨by rfl, ?_⟩) hHeld ?_ ?_; rotate_left; (·(rintro w' ⟨s0, s1, s2, s3, s4⟩; go_simp; with_reducible rfl)); rotate_left; (·(simp only [q1,q2,q3,q4,q5,q6,q7]; rfl))
        refine take_ (i := 6) (N := some 123) (v := ?_) (a' := ?_) zc7_ rfl rfl (take_ofW HT_.out HW_.out (by kernel_rfl)) (fun _ _ _ h => h) (Or.inl ⟨by rfl, ?_⟩) hHeld ?_ ?_; rotate_left; (·(rintro w' ⟨s0, s1, s2, s3, s4⟩; go_simp; with_reducible rfl)); rotate_left; (·(simp only [q1,q2,q3,q4,q5,q6,q7]; rfl))
        refine pure_ (i := 7) (N := some 124) (v := ?_) (a' := ?_) zc10_ rfl rfl (any_of HT_.out (by kernel_rfl)) (fun _ _ _ h => h) (Or.inl ⟨by rfl, ?_⟩) ?_ ?_; rotate_left; (·(intro w'; go_simp; with_reducible rfl)); rotate_left; (·(simp only [q1,q2,q3,q4,q5,q6,q7]; rfl))
        refine pure_ (i := 8) (N := some 125) (v := ?_) (a' := ?_) zc6_ rfl rfl (any_of HT_.out (by kernel_rfl)) (fun _ _ _ h => h) (Or.inl ⟨by rfl, ?_⟩) ?_ ?_; rotate_left; (·(intro w'; go_simp; with_reducible rfl)); rotate_left; (·(simp only [q1,q2,q3,q4,q5,q6,q7]; rfl))
        refine last_ (i := 9) (N := none) zc11_ rfl rfl (one_of HT_.out (by kernel_rfl)) (by decide) (fun K hK => ?_)
        refine skip_ (w1 := ?_) (by rfl) rfl ?_ ?_
        rotate_left; (·(go_simp; rfl))
        refine hK.out _ _ ?_
        clear hK K
        refine done_ (done_of HT_.out (by kernel_rfl)) ?_
        try go_wp2
        have n0_ : Aside0 (Kd.R (Kd.int .i64) 3 (w92.setCell ⟨go87, (((rd_T60 l0_1 x55_2).f2) : Int).toNat, none⟩ (.int .i64 (wrap64 ((rd x8_2 ((rd_T60 l0_1 x55_2).f2)) + ((rd_T60 l0_1 x55_2).f1))))) w.heap.size (fun k_ => some k_ ≠ (v193 : Value).ownBlock) (.slice (some ⟨go87, 0, none⟩) x8_2.length co93) y209) := ⟨by (with_reducible repeat (first | apply Kd.R_alloc | apply Kd.R_drewN | apply Kd.R_drew)); exact HQ94.out⟩
        have n1_ : Aside0 (Kd.R (Kd.int .i64) 3 (w92.setCell ⟨go87, (((rd_T60 l0_1 x55_2).f2) : Int).toNat, none⟩ (.int .i64 (wrap64 ((rd x8_2 ((rd_T60 l0_1 x55_2).f2)) + ((rd_T60 l0_1 x55_2).f1))))) w.heap.size (fun k_ => some k_ ≠ (.slice (some ⟨go87, 0, none⟩) x8_2.length co93 : Value).ownBlock) v193 x9_2) := ⟨by (with_reducible repeat (first | apply Kd.R_alloc | apply Kd.R_drewN | apply Kd.R_drew)); exact Kd.R_mono (Kd.R_far (p := ⟨go87, (((rd_T60 l0_1 x55_2).f2) : Int).toNat, none⟩) (Kd.R_mono HO_9.out (fun k_ hk => (⟨hk, fun e_ => hk (by rw [e_]; rfl)⟩ : _ ∧ k_ ≠ go87))) (fun _ hk => hk.2) (.int .i64 (wrap64 ((rd x8_2 ((rd_T60 l0_1 x55_2).f2)) + ((rd_T60 l0_1 x55_2).f1))))) (fun _ hk => hk.1)⟩
        have n2_ : Aside0 ((w92.setCell ⟨go87, (((rd_T60 l0_1 x55_2).f2) : Int).toNat, none⟩ (.int .i64 (wrap64 ((rd x8_2 ((rd_T60 l0_1 x55_2).f2)) + ((rd_T60 l0_1 x55_2).f1))))).heap[gb181]? = some (.cells #[.slice A0_0 l0_0.length c0_0, .slice (some ad195) l0_1.length c0_1, .slice A0_2 l0_2.length c0_2, .slice A0_3 l0_3.length c0_3] 38 (0, 0))) := ⟨by (with_reducible repeat (first | refine blk_drewN ?_ _ | refine blk_drew ?_ | refine blk_alloc ?_ _)); refine blk_far ?_ (by have h_ := Kd.R_ne HO_8.out BK181.out (by decide); intro e_; exact h_ (by rw [e_]; rfl)) _; (with_reducible repeat (first | refine blk_drewN ?_ _ | refine blk_drew ?_ | refine blk_alloc ?_ _)); exact BK181.out⟩
        have n3_ : Aside0 ((w92.setCell ⟨go87, (((rd_T60 l0_1 x55_2).f2) : Int).toNat, none⟩ (.int .i64 (wrap64 ((rd x8_2 ((rd_T60 l0_1 x55_2).f2)) + ((rd_T60 l0_1 x55_2).f1))))).heap[gb196]? = some (.cells #[.int .i64 ((rd_T60 l0_1 x55_2).f0), .int .i64 ((rd_T60 l0_1 x55_2).f1), .int .i64 ((rd_T60 l0_1 x55_2).f2), .int .i64 ((rd_T60 l0_1 x55_2).f3)] 60 (0, 0))) := ⟨by (with_reducible repeat (first | refine blk_drewN ?_ _ | refine blk_drew ?_ | refine blk_alloc ?_ _)); refine blk_far ?_ (by have h_ := Kd.R_ne HO_8.out BK196.out (by decide); intro e_; exact h_ (by rw [e_]; rfl)) _; (with_reducible repeat (first | refine blk_drewN ?_ _ | refine blk_drew ?_ | refine blk_alloc ?_ _)); exact BK196.out⟩
        have n4_ : Aside0 (Below w.heap.size w (w92.setCell ⟨go87, (((rd_T60 l0_1 x55_2).f2) : Int).toNat, none⟩ (.int .i64 (wrap64 ((rd x8_2 ((rd_T60 l0_1 x55_2).f2)) + ((rd_T60 l0_1 x55_2).f1)))))) := ⟨by repeat (first | (with_reducible first | exact HB.out | apply below_alloc | apply pw_below_drewN | apply below_drew1 | refine below_set ?_ GB87.out | refine below_set ?_ GE181.out | refine below_set ?_ GE196.out) | exact HB.out)⟩
        (try clear HO_8)
        (try clear HO_9)
        (try clear BK181)
        (try clear BK196)
        (try clear HB)
        generalize (w92.setCell ⟨go87, (((rd_T60 l0_1 x55_2).f2) : Int).toNat, none⟩ (.int .i64 (wrap64 ((rd x8_2 ((rd_T60 l0_1 x55_2).f2)) + ((rd_T60 l0_1 x55_2).f1))))) = w95 at n0_ n1_ n2_ n3_ n4_ ⊢
        have HO_8 := n0_; have HO_9 := n1_; have BK181 := n2_; have BK196 := n3_; have HB := n4_; clear n0_ n1_ n2_ n3_ n4_
        have n0_ := Aside0.mk (Kd.R_drew HO_8.out)
        have n1_ := Aside0.mk (Kd.R_drew HO_9.out)
        have n2_ := Aside0.mk (blk_drew BK181.out)
        have n3_ := Aside0.mk (blk_drew BK196.out)
        have n4_ := Aside0.mk (below_drew1 HB.out)
        clear HO_8; clear HO_9; clear BK181; clear BK196; clear HB; have HO_8 := n0_; have HO_9 := n1_; have BK181 := n2_; have BK196 := n3_; have HB := n4_; clear n0_ n1_ n2_ n3_ n4_
        obtain ⟨Ao97, co97, eo97⟩ := Kd.R_slice HO_9.out
        (first | subst eo97 | (injection eo97 with f1_ f2_ f3_; have f4_ := f1_.symm; have f5_ := f3_.symm; clear f1_ f2_ f3_; subst f4_; subst f5_))
        have p210 : 0 ≤ (((rd_T60 l0_1 x55_2).f3) : Int) := of_decide_eq_true (by first | (with_reducible assumption) | assumption)
        have q210 : ((rd_T60 l0_1 x55_2).f3) < (x9_2.length : Int) := of_decide_eq_true (by first | (with_reducible assumption) | assumption)
        obtain ⟨ad210, e210, hx210_0⟩ := Kd.at_int (Kd.R_reads' HO_9.out).2.2 ((rd_T60 l0_1 x55_2).f3) p210 q210
        cases e210
        replace p210 := eq_true p210
        replace q210 := eq_true q210
        have p90 : 0 ≤ (((rd_T60 l0_1 x55_2).f3) : Int) := of_decide_eq_true (by first | (with_reducible assumption) | assumption)
        have q90 : (((rd_T60 l0_1 x55_2).f3) : Int) < ((x9_2.length : Int) : Int) := of_decide_eq_true (by first | (with_reducible assumption) | assumption)
        obtain ⟨go90, co90, eo90, gb90, gl90, cl90, HG90⟩ := Kd.R_form HO_9.out (by omega)
        (first | cases eo90 | (injection eo90 with ea_ en_ ec_; (first | subst ea_ | (injection ea_ with ea_; subst ea_)); subst ec_; clear en_))
        have GB90 := Aside0.mk gb90
        have GG90 := Aside0.mk HG90
        clear gb90 gl90 HG90
        (first | simp only [add_plain] at hx210_0 | skip)
        obtain ⟨hx90_0, hf90_0⟩ := Kd.R_celln 0 HO_9.out (((rd_T60 l0_1 x55_2).f3) : Int) p90 q90
        replace p90 := eq_true p90
        replace q90 := eq_true q90
        have HP98 := Kd.R_putn HO_9.out (((rd_T60 l0_1 x55_2).f3) : Int) (wrap64 ((rd x9_2 ((rd_T60 l0_1 x55_2).f3)) + ((rd_T60 l0_1 x55_2).f1)))
        rw [← Ny211.out] at HP98
        have HQ98 := Aside0.mk HP98
        clear HP98
        refine start_ (n := 10) (S := fun w' => w'.cell? ⟨gb196, 0, none⟩ = some (.int .i64 ((rd_T60 l0_1 x55_2).f0)) ∧ w'.cell? ⟨gb196, 1, none⟩ = some (.int .i64 ((rd_T60 l0_1 x55_2).f1)) ∧ w'.cell? ⟨gb196, 2, none⟩ = some (.int .i64 ((rd_T60 l0_1 x55_2).f2)) ∧ w'.cell? ⟨gb196, 3, none⟩ = some (.int .i64 ((rd_T60 l0_1 x55_2).f3)) ∧ w'.cell? ⟨go90, ((rd_T60 l0_1 x55_2).f3).toNat, none⟩ = some (.int .i64 (rd x9_2 ((rd_T60 l0_1 x55_2).f3)))) (ds := [9]) #[false, false, false, false, false, false, false, false, false, false] (by kernel_rfl) rfl rfl ⟨(blk_cell BK196.out 0).trans rfl, (blk_cell BK196.out 1).trans rfl, (blk_cell BK196.out 2).trans rfl, (blk_cell BK196.out 3).trans rfl, hx210_0⟩ (fun hHeld => ?_); refine with_tabW sequence_CheckK.tab23 sequence_CheckK.bits23 (fun HT_ HW_ => ?_)
        generalize w95.drew = w96 at HO_8 HO_9 BK181 BK196 HB GG90 HQ94 HQ98 hf90_0 hx210_0 hx90_0 hHeld ⊢
        refine pure_ (i := 0) (N := some 126) (v := ?_) (a' := ?_) zc0_ rfl rfl (any_of HT_.out (by kernel_rfl)) (fun _ _ _ h => h) (Or.inl ⟨by rfl, ?_⟩) ?_ ?_; rotate_left; (·(intro w'; go_simp; with_reducible rfl)); rotate_left; (·(simp only [q1,q2,q3,q4,q5,q6,q7]; rfl))
        refine pure_ (i := 1) (N := some 127) (v := ?_) (a' := ?_) zc58_ rfl rfl (any_of HT_.out (by kernel_rfl)) (fun _ _ _ h => h) (Or.inl ⟨by rfl, ?_⟩) ?_ ?_; rotate_left; (·(intro w'; go_simp; with_reducible rfl)); rotate_left; (·(simp only [q1,q2,q3,q4,q5,q6,q7]; rfl))
        refine pure_ (i := 5) (N := some 131) (v := ?_) (a' := ?_) zc59_ rfl rfl (any_of HT_.out (by kernel_rfl)) (fun _ _ _ h => h) (Or.inl ⟨by rfl, ?_⟩) ?_ ?_; rotate_left; (·(intro w'; go_simp; with_reducible rfl)); rotate_left; (·(simp only [q1,q2,q3,q4,q5,q6,q7]; rfl))
        refine take_ (i := 2) (N := some 128) (v := ?_) (a' := ?_) zc60_ rfl rfl (take_ofW HT_.out HW_.out (by kernel_rfl)) (fun _ _ _ h => h) (Or.inl ⟨by rfl, ?_⟩) hHeld ?_ ?_; rotate_left; (·(rintro w' ⟨s0, s1, s2, s3, s4⟩; go_simp; with_reducible rfl)); rotate_left; (·(simp only [q1,q2,q3,q4,q5,q6,q7]; rfl))
        refine pure_ (i := 3) (N := some 129) (v := ?_) (a' := ?_) zc61_ rfl rfl (any_of HT_.out (by kernel_rfl)) (fun _ _ _ h => h) (Or.inl ⟨by rfl, ?_⟩) ?_ ?_; rotate_left; (·(intro w'; go_simp; with_reducible rfl)); rotate_left; (·(simp only [q1,q2,q3,q4,q5,q6,q7]; rfl))
        refine take_ (i := 4) (N := some 130) (v := ?_) (a' := ?_) zc62_ rfl rfl (take_ofW HT_.out HW_.out (by kernel_rfl)) (fun _ _ _ h => h) (Or.inl ⟨by rfl, ?_⟩) hHeld ?_ ?_; rotate_left; (·(rintro w' ⟨s0, s1, s2, s3, s4⟩; go_simp; with_reducible rfl)); rotate_left; (·(simp only [q1,q2,q3,q4,q5,q6,q7]; rfl))
        refine take_ (i := 6) (N := some 132) (v := ?_) (a' := ?_) zc7_ rfl rfl (take_ofW HT_.out HW_.out (by kernel_rfl)) (fun _ _ _ h => h) (Or.inl ⟨by rfl, ?_⟩) hHeld ?_ ?_; rotate_left; (·(rintro w' ⟨s0, s1, s2, s3, s4⟩; go_simp; with_reducible rfl)); rotate_left; (·(simp only [q1,q2,q3,q4,q5,q6,q7]; rfl))
        refine pure_ (i := 7) (N := some 133) (v := ?_) (a' := ?_) zc10_ rfl rfl (any_of HT_.out (by kernel_rfl)) (fun _ _ _ h => h) (Or.inl ⟨by rfl, ?_⟩) ?_ ?_; rotate_left; (·(intro w'; go_simp; with_reducible rfl)); rotate_left; (·(simp only [q1,q2,q3,q4,q5,q6,q7]; rfl))
        refine pure_ (i := 8) (N := some 134) (v := ?_) (a' := ?_) zc6_ rfl rfl (any_of HT_.out (by kernel_rfl)) (fun _ _ _ h => h) (Or.inl ⟨by rfl, ?_⟩) ?_ ?_; rotate_left; (·(intro w'; go_simp; with_reducible rfl)); rotate_left; (·(simp only [q1,q2,q3,q4,q5,q6,q7]; rfl))
        refine last_ (i := 9) (N := none) zc11_ rfl rfl (one_of HT_.out (by kernel_rfl)) (by decide) (fun K hK => ?_)
        refine skip_ (w1 := ?_) (by rfl) rfl ?_ ?_
        rotate_left; (·(go_simp; rfl))
        refine hK.out _ _ ?_
        clear hK K
        refine done_ (done_of HT_.out (by kernel_rfl)) ?_
        try go_wp2
        go_roundg kj34
        case measure => have := HK1.out; have := HK2.out; have := HJ34.out; omega
        case rel => exact ⟨(y209), (y211), (wrap64 (x55_2 + 1)), (by first | rfl | (simp; done) | (simp [*]; done)), H', ⟨by have := HK1.out; have := HK2.out; have := HJ34.out; omega⟩, ⟨by (with_reducible repeat (first | apply Kd.R_alloc | apply Kd.R_drewN | apply Kd.R_drew)); exact Kd.R_mono (Kd.R_far (p := ⟨go90, (((rd_T60 l0_1 x55_2).f3) : Int).toNat, none⟩) (Kd.R_mono HO_8.out (fun k_ hk => (⟨hk, fun e_ => hk (by rw [e_]; rfl)⟩ : _ ∧ k_ ≠ go90))) (fun _ hk => hk.2) (.int .i64 (wrap64 ((rd x9_2 ((rd_T60 l0_1 x55_2).f3)) + ((rd_T60 l0_1 x55_2).f1))))) (fun _ hk => hk.1)⟩, ⟨by (with_reducible repeat (first | apply Kd.R_alloc | apply Kd.R_drewN | apply Kd.R_drew)); exact HQ98.out⟩, ⟨by (with_reducible repeat (first | refine blk_drewN ?_ _ | refine blk_drew ?_ | refine blk_alloc ?_ _)); refine blk_far ?_ (by have h_ := Kd.R_ne HO_9.out BK181.out (by decide); intro e_; exact h_ (by rw [e_]; rfl)) _; (with_reducible repeat (first | refine blk_drewN ?_ _ | refine blk_drew ?_ | refine blk_alloc ?_ _)); exact BK181.out⟩, ⟨by repeat (first | (with_reducible first | exact HB.out | apply below_alloc | apply pw_below_drewN | apply below_drew1 | refine below_set ?_ GB90.out | refine below_set ?_ GE181.out | refine below_set ?_ GE196.out) | exact HB.out)⟩⟩
       rw [if_pos c48] at H
       have c48b0 : decide (0 < x55_2) = true := decide_eq_true c48
       clear c48
       obtain ⟨ji49, hji49⟩ : ∃ j_ : Int, (wrap64 (x55_2 - 1)) = j_ := ⟨_, rfl⟩
       replace H : (if 0 ≤ (ji49) then (if (ji49) < (l0_1.length : Int) then (if ((rd_T60 l0_1 x55_2).f3) < ((rd_T60 l0_1 (ji49)).f3) then (some (x55_2, 282)) else (if ((rd_T60 l0_1 x55_2).f3) = ((rd_T60 l0_1 (ji49)).f3) then (if ((rd_T60 l0_1 x55_2).f2) ≤ ((rd_T60 l0_1 (ji49)).f2) then (some (x55_2, 282)) else (if 0 ≤ ((rd_T60 l0_1 x55_2).f2) then (if ((rd_T60 l0_1 x55_2).f2) < (x8_2.length : Int) then (if 0 ≤ ((rd_T60 l0_1 x55_2).f3) then (if ((rd_T60 l0_1 x55_2).f3) < (x9_2.length : Int) then (sequence_CheckK.l1 kj34 (x8_2.set (((rd_T60 l0_1 x55_2).f2) : Int).toNat (wrap64 ((rd x8_2 ((rd_T60 l0_1 x55_2).f2)) + ((rd_T60 l0_1 x55_2).f1)))) (x9_2.set (((rd_T60 l0_1 x55_2).f3) : Int).toNat (wrap64 ((rd x9_2 ((rd_T60 l0_1 x55_2).f3)) + ((rd_T60 l0_1 x55_2).f1)))) l0_1 (l0_1.length : Int) (wrap64 (x55_2 + 1)) l0_0 l0_1 l0_2 l0_3) else (none)) else (none)) else (none)) else (none))) else (if 0 ≤ ((rd_T60 l0_1 x55_2).f2) then (if ((rd_T60 l0_1 x55_2).f2) < (x8_2.length : Int) then (if 0 ≤ ((rd_T60 l0_1 x55_2).f3) then (if ((rd_T60 l0_1 x55_2).f3) < (x9_2.length : Int) then (sequence_CheckK.l1 kj34 (x8_2.set (((rd_T60 l0_1 x55_2).f2) : Int).toNat (wrap64 ((rd x8_2 ((rd_T60 l0_1 x55_2).f2)) + ((rd_T60 l0_1 x55_2).f1)))) (x9_2.set (((rd_T60 l0_1 x55_2).f3) : Int).toNat (wrap64 ((rd x9_2 ((rd_T60 l0_1 x55_2).f3)) + ((rd_T60 l0_1 x55_2).f1)))) l0_1 (l0_1.length : Int) (wrap64 (x55_2 + 1)) l0_0 l0_1 l0_2 l0_3) else (none)) else (none)) else (none)) else (none)))) else (none)) else (none)) = some (r1, r2) := by first | (rw [hji49] at H; exact H) | (simp only [hji49] at H ⊢; exact H)
       have hji49w : (IntKind.i64.wrap (x55_2 - 1)) = ji49 := (i64_w _).trans hji49
       by_cases c50 : 0 ≤ (ji49)
       rotate_left
       ·rw [if_neg c50] at H
        exact absurd H (by simp)
       rw [if_pos c50] at H
       have c50b0 : decide (0 ≤ (ji49)) = true := decide_eq_true c50
       clear c50
       by_cases c51 : (ji49) < (l0_1.length : Int)
       rotate_left
       ·rw [if_neg c51] at H
        exact absurd H (by simp)
       rw [if_pos c51] at H
       have c51b0 : decide ((ji49) < (l0_1.length : Int)) = true := decide_eq_true c51
       clear c51
       by_cases c52 : ((rd_T60 l0_1 x55_2).f3) < ((rd_T60 l0_1 (ji49)).f3)
       ·rw [if_pos c52] at H
        have c52b0 : decide (((rd_T60 l0_1 x55_2).f3) < ((rd_T60 l0_1 (ji49)).f3)) = true := decide_eq_true c52
        clear c52
        simp only [Option.some.injEq, Prod.mk.injEq] at H
        obtain ⟨rfl, rfl⟩ := H
        try go_wp2
        have n0_ := Aside0.mk (Kd.R_drew HO_8.out)
        have n1_ := Aside0.mk (Kd.R_drew HO_9.out)
        have n2_ := Aside0.mk (blk_drew BK181.out)
        have n3_ := Aside0.mk (blk_drew BK196.out)
        have n4_ := Aside0.mk (below_drew1 HB.out)
        clear HO_8; clear HO_9; clear BK181; clear BK196; clear HB; have HO_8 := n0_; have HO_9 := n1_; have BK181 := n2_; have BK196 := n3_; have HB := n4_; clear n0_ n1_ n2_ n3_ n4_
        have p197 : 0 ≤ ((ji49) : Int) := of_decide_eq_true (by first | (with_reducible assumption) | assumption)
        have q197 : (ji49) < (l0_1.length : Int) := of_decide_eq_true (by first | (with_reducible assumption) | assumption)
        obtain ⟨ad197, e197, hx197_0, hx197_1, hx197_2, hx197_3⟩ := at_T60 HR0_1.out (ji49) p197 q197
        have hw197_3 := hx197_3; have hw197_2 := hx197_2; have hw197_1 := hx197_1; have hw197_0 := hx197_0
        obtain rfl : ad195 = ad197 := (by injection e197)
        replace hx197_0 := (HB.out.cell (World.block_lt_of_cell? w _ hx197_0)).trans hx197_0
        replace hx197_1 := (HB.out.cell (World.block_lt_of_cell? w _ hx197_1)).trans hx197_1
        replace hx197_2 := (HB.out.cell (World.block_lt_of_cell? w _ hx197_2)).trans hx197_2
        replace hx197_3 := (HB.out.cell (World.block_lt_of_cell? w _ hx197_3)).trans hx197_3
        replace p197 := eq_true p197
        replace q197 := eq_true q197
        refine start_ (n := 38) (S := fun w' => w'.cell? ⟨gb196, 0, none⟩ = some (.int .i64 ((rd_T60 l0_1 x55_2).f0)) ∧ w'.cell? ⟨gb196, 1, none⟩ = some (.int .i64 ((rd_T60 l0_1 x55_2).f1)) ∧ w'.cell? ⟨gb196, 2, none⟩ = some (.int .i64 ((rd_T60 l0_1 x55_2).f2)) ∧ w'.cell? ⟨gb196, 3, none⟩ = some (.int .i64 ((rd_T60 l0_1 x55_2).f3)) ∧ w'.cell? ⟨gb181, 0, none⟩ = some (.slice A0_0 l0_0.length c0_0) ∧ w'.cell? ⟨gb181, 1, none⟩ = some (.slice (some ad195) l0_1.length c0_1) ∧ w'.cell? ⟨gb181, 2, none⟩ = some (.slice A0_2 l0_2.length c0_2) ∧ w'.cell? ⟨gb181, 3, none⟩ = some (.slice A0_3 l0_3.length c0_3) ∧ w'.cell? (ad195.add (((ji49)).toNat * 4)) = some (.int .i64 ((rd_T60 l0_1 (ji49)).f0)) ∧ w'.cell? ⟨(ad195.add (((ji49)).toNat * 4)).block, (ad195.add (((ji49)).toNat * 4)).off + 1, none⟩ = some (.int .i64 ((rd_T60 l0_1 (ji49)).f1)) ∧ w'.cell? ⟨(ad195.add (((ji49)).toNat * 4)).block, (ad195.add (((ji49)).toNat * 4)).off + 2, none⟩ = some (.int .i64 ((rd_T60 l0_1 (ji49)).f2)) ∧ w'.cell? ⟨(ad195.add (((ji49)).toNat * 4)).block, (ad195.add (((ji49)).toNat * 4)).off + 3, none⟩ = some (.int .i64 ((rd_T60 l0_1 (ji49)).f3))) (ds := []) #[false, false, false, false, false, false, false, false, false, false, false, false, false, false, false, false, false, false, false, false, false, false, false, false, false, false, false, false, false, false, false, false, false, false, false, false, false, false] (by kernel_rfl) rfl rfl ⟨(blk_cell BK196.out 0).trans rfl, (blk_cell BK196.out 1).trans rfl, (blk_cell BK196.out 2).trans rfl, (blk_cell BK196.out 3).trans rfl, (blk_cell BK181.out 0).trans rfl, (blk_cell BK181.out 1).trans rfl, (blk_cell BK181.out 2).trans rfl, (blk_cell BK181.out 3).trans rfl, ((HB.out.cell (World.block_lt_of_cell? w _ hw197_0)).trans hw197_0), ((HB.out.cell (World.block_lt_of_cell? w _ hw197_1)).trans hw197_1), ((HB.out.cell (World.block_lt_of_cell? w _ hw197_2)).trans hw197_2), ((HB.out.cell (World.block_lt_of_cell? w _ hw197_3)).trans hw197_3)⟩ (fun hHeld => ?_); refine with_tabW sequence_CheckK.tab20 sequence_CheckK.bits20 (fun HT_ HW_ => ?_)
        generalize wc.drew = w53 at HO_8 HO_9 BK181 BK196 HB hx197_0 hx197_1 hx197_2 hx197_3 hHeld ⊢
        refine pure_ (i := 0) (N := some 78) (v := ?_) (a' := ?_) zc12_ rfl rfl (any_of HT_.out (by kernel_rfl)) (fun _ _ _ h => h) (Or.inl ⟨by rfl, ?_⟩) ?_ ?_; rotate_left; (·(intro w'; go_simp; with_reducible rfl)); rotate_left; (·(simp only [q1,q2,q3,q4,q5,q6,q7]; rfl))
        refine pure_ (i := 1) (N := some 79) (v := ?_) (a' := ?_) zc13_ rfl rfl (any_of HT_.out (by kernel_rfl)) (fun _ _ _ h => h) (Or.inl ⟨by rfl, ?_⟩) ?_ ?_; rotate_left; (·(intro w'; go_simp; with_reducible rfl)); rotate_left; (·(simp only [q1,q2,q3,q4,q5,q6,q7]; rfl))
        refine pure_ (i := 2) (N := some 80) (v := ?_) (a' := ?_) zc14_ rfl rfl (any_of HT_.out (by kernel_rfl)) (fun _ _ _ h => h) (Or.inl ⟨by rfl, ?_⟩) ?_ ?_; rotate_left; (·(intro w'; go_simp; with_reducible rfl)); rotate_left; (·(simp only [q1,q2,q3,q4,q5,q6,q7]; rfl))
        refine pure_ (i := 3) (N := some 81) (v := ?_) (a' := ?_) zc15_ rfl rfl (any_of HT_.out (by kernel_rfl)) (fun _ _ _ h => h) (Or.inl ⟨by rfl, ?_⟩) ?_ ?_; rotate_left; (·(intro w'; go_simp; with_reducible rfl)); rotate_left; (·(simp only [q1,q2,q3,q4,q5,q6,q7]; rfl))
        refine pure_ (i := 5) (N := some 83) (v := ?_) (a' := ?_) zc16_ rfl rfl (any_of HT_.out (by kernel_rfl)) (fun _ _ _ h => h) (Or.inl ⟨by rfl, ?_⟩) ?_ ?_; rotate_left; (·(intro w'; go_simp; with_reducible rfl)); rotate_left; (·(simp only [q1,q2,q3,q4,q5,q6,q7]; rfl))
        refine pure_ (i := 7) (N := some 85) (v := ?_) (a' := ?_) zc17_ rfl rfl (any_of HT_.out (by kernel_rfl)) (fun _ _ _ h => h) (Or.inl ⟨by rfl, ?_⟩) ?_ ?_; rotate_left; (·(intro w'; go_simp; with_reducible rfl)); rotate_left; (·(simp only [q1,q2,q3,q4,q5,q6,q7]; rfl))
        refine pure_ (i := 8) (N := some 86) (v := ?_) (a' := ?_) zc18_ rfl rfl (any_of HT_.out (by kernel_rfl)) (fun _ _ _ h => h) (Or.inl ⟨by rfl, ?_⟩) ?_ ?_; rotate_left; (·(intro w'; go_simp; with_reducible rfl)); rotate_left; (·(simp only [q1,q2,q3,q4,q5,q6,q7]; rfl))
        refine take_ (i := 4) (N := some 82) (v := ?_) (a' := ?_) zc19_ rfl rfl (take_ofW HT_.out HW_.out (by kernel_rfl)) (fun _ _ _ h => h) (Or.inl ⟨by rfl, ?_⟩) hHeld ?_ ?_; rotate_left; (·(rintro w' ⟨s0, s1, s2, s3, s4, s5, s6, s7, s8, s9, s10, s11⟩; go_simp; with_reducible rfl)); rotate_left; (·(simp only [q1,q2,q3,q4,q5,q6,q7]; rfl))
        refine take_ (i := 6) (N := some 84) (v := ?_) (a' := ?_) zc20_ rfl rfl (take_ofW HT_.out HW_.out (by kernel_rfl)) (fun _ _ _ h => h) (Or.inl ⟨by rfl, ?_⟩) hHeld ?_ ?_; rotate_left; (·(rintro w' ⟨s0, s1, s2, s3, s4, s5, s6, s7, s8, s9, s10, s11⟩; go_simp; with_reducible rfl)); rotate_left; (·(simp only [q1,q2,q3,q4,q5,q6,q7]; rfl))
        refine pure_ (i := 9) (N := some 87) (v := ?_) (a' := ?_) zc21_ rfl rfl (any_of HT_.out (by kernel_rfl)) (fun _ _ _ h => h) (Or.inl ⟨by rfl, ?_⟩) ?_ ?_; rotate_left; (·(intro w'; go_simp; with_reducible rfl)); rotate_left; (·(simp only [q1,q2,q3,q4,q5,q6,q7]; rfl))
        refine pure_ (i := 10) (N := some 88) (v := ?_) (a' := ?_) zc22_ rfl rfl (any_of HT_.out (by kernel_rfl)) (fun _ _ _ h => h) (Or.inl ⟨by rfl, ?_⟩) ?_ ?_; rotate_left; (·(intro w'; go_simp; with_reducible rfl)); rotate_left; (·(simp only [q1,q2,q3,q4,q5,q6,q7]; rfl))
        refine take_ (i := 11) (N := some 89) (v := ?_) (a' := ?_) zc23_ rfl rfl (take_ofW HT_.out HW_.out (by kernel_rfl)) (fun _ _ _ h => h) (Or.inl ⟨by rfl, ?_⟩) hHeld ?_ ?_; rotate_left; (·(rintro w' ⟨s0, s1, s2, s3, s4, s5, s6, s7, s8, s9, s10, s11⟩; go_simp; with_reducible rfl)); rotate_left; (·(simp only [q1,q2,q3,q4,q5,q6,q7]; rfl))
        refine pure_ (i := 12) (N := some 90) (v := ?_) (a' := ?_) zc24_ rfl rfl (any_of HT_.out (by kernel_rfl)) (fun _ _ _ h => h) (Or.inl ⟨by rfl, ?_⟩) ?_ ?_; rotate_left; (·(intro w'; go_simp; with_reducible rfl)); rotate_left; (·(simp only [q1,q2,q3,q4,q5,q6,q7]; rfl))
        refine pure_ (i := 13) (N := some 91) (v := ?_) (a' := ?_) zc25_ rfl rfl (any_of HT_.out (by kernel_rfl)) (fun _ _ _ h => h) (Or.inl ⟨by rfl, ?_⟩) ?_ ?_; rotate_left; (·(intro w'; go_simp; with_reducible rfl)); rotate_left; (·(simp only [q1,q2,q3,q4,q5,q6,q7]; rfl))
        refine pure_ (i := 14) (N := some 92) (v := undef) (a' := ?_) zc26_ rfl rfl (any_of HT_.out (by kernel_rfl)) (fun _ _ _ h => h) (Or.inr ⟨by rfl, rfl⟩) ?_ ?_; rotate_left; (·(simp only [q1,q2,q3,q4,q5,q6,q7]; rfl))
        refine pure_ (i := 15) (N := some 93) (v := undef) (a' := ?_) zc27_ rfl rfl (any_of HT_.out (by kernel_rfl)) (fun _ _ _ h => h) (Or.inr ⟨by rfl, rfl⟩) ?_ ?_; rotate_left; (·(simp only [q1,q2,q3,q4,q5,q6,q7]; rfl))
        refine pure_ (i := 16) (N := some 94) (v := undef) (a' := ?_) zc28_ rfl rfl (any_of HT_.out (by kernel_rfl)) (fun _ _ _ h => h) (Or.inr ⟨by rfl, rfl⟩) ?_ ?_; rotate_left; (·(simp only [q1,q2,q3,q4,q5,q6,q7]; rfl))
        refine pure_ (i := 17) (N := some 95) (v := undef) (a' := ?_) zc29_ rfl rfl (any_of HT_.out (by kernel_rfl)) (fun _ _ _ h => h) (Or.inr ⟨by rfl, rfl⟩) ?_ ?_; rotate_left; (·(simp only [q1,q2,q3,q4,q5,q6,q7]; rfl))
        refine pure_ (i := 18) (N := some 96) (v := undef) (a' := ?_) zc30_ rfl rfl (any_of HT_.out (by kernel_rfl)) (fun _ _ _ h => h) (Or.inr ⟨by rfl, rfl⟩) ?_ ?_; rotate_left; (·(simp only [q1,q2,q3,q4,q5,q6,q7]; rfl))
        refine pure_ (i := 19) (N := some 97) (v := undef) (a' := ?_) zc31_ rfl rfl (any_of HT_.out (by kernel_rfl)) (fun _ _ _ h => h) (Or.inr ⟨by rfl, rfl⟩) ?_ ?_; rotate_left; (·(simp only [q1,q2,q3,q4,q5,q6,q7]; rfl))
        refine pure_ (i := 20) (N := some 98) (v := undef) (a' := ?_) zc32_ rfl rfl (any_of HT_.out (by kernel_rfl)) (fun _ _ _ h => h) (Or.inr ⟨by rfl, rfl⟩) ?_ ?_; rotate_left; (·(simp only [q1,q2,q3,q4,q5,q6,q7]; rfl))
        refine pure_ (i := 21) (N := some 99) (v := undef) (a' := ?_) zc33_ rfl rfl (any_of HT_.out (by kernel_rfl)) (fun _ _ _ h => h) (Or.inr ⟨by rfl, rfl⟩) ?_ ?_; rotate_left; (·(simp only [q1,q2,q3,q4,q5,q6,q7]; rfl))
        refine pure_ (i := 22) (N := some 100) (v := undef) (a' := ?_) zc34_ rfl rfl (any_of HT_.out (by kernel_rfl)) (fun _ _ _ h => h) (Or.inr ⟨by rfl, rfl⟩) ?_ ?_; rotate_left; (·(simp only [q1,q2,q3,q4,q5,q6,q7]; rfl))
        refine pure_ (i := 23) (N := some 101) (v := undef) (a' := ?_) zc35_ rfl rfl (any_of HT_.out (by kernel_rfl)) (fun _ _ _ h => h) (Or.inr ⟨by rfl, rfl⟩) ?_ ?_; rotate_left; (·(simp only [q1,q2,q3,q4,q5,q6,q7]; rfl))
        refine pure_ (i := 24) (N := some 102) (v := undef) (a' := ?_) zc36_ rfl rfl (any_of HT_.out (by kernel_rfl)) (fun _ _ _ h => h) (Or.inr ⟨by rfl, rfl⟩) ?_ ?_; rotate_left; (·(simp only [q1,q2,q3,q4,q5,q6,q7]; rfl))
        refine pure_ (i := 25) (N := some 103) (v := undef) (a' := ?_) zc37_ rfl rfl (any_of HT_.out (by kernel_rfl)) (fun _ _ _ h => h) (Or.inr ⟨by rfl, rfl⟩) ?_ ?_; rotate_left; (·(simp only [q1,q2,q3,q4,q5,q6,q7]; rfl))
        refine pure_ (i := 26) (N := some 104) (v := undef) (a' := ?_) zc38_ rfl rfl (any_of HT_.out (by kernel_rfl)) (fun _ _ _ h => h) (Or.inr ⟨by rfl, rfl⟩) ?_ ?_; rotate_left; (·(simp only [q1,q2,q3,q4,q5,q6,q7]; rfl))
        refine pure_ (i := 27) (N := some 105) (v := undef) (a' := ?_) zc39_ rfl rfl (any_of HT_.out (by kernel_rfl)) (fun _ _ _ h => h) (Or.inr ⟨by rfl, rfl⟩) ?_ ?_; rotate_left; (·(simp only [q1,q2,q3,q4,q5,q6,q7]; rfl))
        refine pure_ (i := 28) (N := some 106) (v := undef) (a' := ?_) zc40_ rfl rfl (any_of HT_.out (by kernel_rfl)) (fun _ _ _ h => h) (Or.inr ⟨by rfl, rfl⟩) ?_ ?_; rotate_left; (·(simp only [q1,q2,q3,q4,q5,q6,q7]; rfl))
        refine pure_ (i := 29) (N := some 107) (v := undef) (a' := ?_) zc41_ rfl rfl (any_of HT_.out (by kernel_rfl)) (fun _ _ _ h => h) (Or.inr ⟨by rfl, rfl⟩) ?_ ?_; rotate_left; (·(simp only [q1,q2,q3,q4,q5,q6,q7]; rfl))
        refine pure_ (i := 30) (N := some 108) (v := undef) (a' := ?_) zc42_ rfl rfl (any_of HT_.out (by kernel_rfl)) (fun _ _ _ h => h) (Or.inr ⟨by rfl, rfl⟩) ?_ ?_; rotate_left; (·(simp only [q1,q2,q3,q4,q5,q6,q7]; rfl))
        refine pure_ (i := 31) (N := some 109) (v := undef) (a' := ?_) zc43_ rfl rfl (any_of HT_.out (by kernel_rfl)) (fun _ _ _ h => h) (Or.inr ⟨by rfl, rfl⟩) ?_ ?_; rotate_left; (·(simp only [q1,q2,q3,q4,q5,q6,q7]; rfl))
        refine pure_ (i := 32) (N := some 110) (v := undef) (a' := ?_) zc44_ rfl rfl (any_of HT_.out (by kernel_rfl)) (fun _ _ _ h => h) (Or.inr ⟨by rfl, rfl⟩) ?_ ?_; rotate_left; (·(simp only [q1,q2,q3,q4,q5,q6,q7]; rfl))
        refine pure_ (i := 33) (N := some 111) (v := undef) (a' := ?_) zc45_ rfl rfl (any_of HT_.out (by kernel_rfl)) (fun _ _ _ h => h) (Or.inr ⟨by rfl, rfl⟩) ?_ ?_; rotate_left; (·(simp only [q1,q2,q3,q4,q5,q6,q7]; rfl))
        refine pure_ (i := 34) (N := some 112) (v := undef) (a' := ?_) zc46_ rfl rfl (any_of HT_.out (by kernel_rfl)) (fun _ _ _ h => h) (Or.inr ⟨by rfl, rfl⟩) ?_ ?_; rotate_left; (·(simp only [q1,q2,q3,q4,q5,q6,q7]; rfl))
        refine pure_ (i := 35) (N := some 113) (v := undef) (a' := ?_) zc47_ rfl rfl (any_of HT_.out (by kernel_rfl)) (fun _ _ _ h => h) (Or.inr ⟨by rfl, rfl⟩) ?_ ?_; rotate_left; (·(simp only [q1,q2,q3,q4,q5,q6,q7]; rfl))
        refine pure_ (i := 36) (N := some 114) (v := ?_) (a' := ?_) zc48_ rfl rfl (any_of HT_.out (by kernel_rfl)) (fun _ _ _ h => h) (Or.inl ⟨by rfl, ?_⟩) ?_ ?_; rotate_left; (·(intro w'; go_simp; with_reducible rfl)); rotate_left; (·(simp only [q1,q2,q3,q4,q5,q6,q7]; rfl))
        refine pure_ (i := 37) (N := some 115) (v := ?_) (a' := ?_) zc49_ rfl rfl (any_of HT_.out (by kernel_rfl)) (fun _ _ _ h => h) (Or.inl ⟨by rfl, ?_⟩) ?_ ?_; rotate_left; (·(intro w'; go_simp; with_reducible rfl)); rotate_left; (·(simp only [q1,q2,q3,q4,q5,q6,q7]; rfl))
        refine done_ (done_of HT_.out (by kernel_rfl)) ?_
        try go_wp2
        go_ret2
        exact ⟨by first | rfl | (simp [errW_none, errW_some] <;> rfl) | (simp only [← hji49]; first | rfl | (simp [errW_none, errW_some] <;> rfl)) | (simp [*, errW_none, errW_some] <;> rfl), by repeat (first | (with_reducible first | exact HB.out | apply below_alloc | apply pw_below_drewN | apply below_drew1 | refine below_set ?_ GE181.out | refine below_set ?_ GE196.out) | exact HB.out)⟩
       rw [if_neg c52] at H
       have c52b0 : decide (((rd_T60 l0_1 x55_2).f3) < ((rd_T60 l0_1 (ji49)).f3)) = false := decide_eq_false c52
       clear c52
       by_cases c54 : ((rd_T60 l0_1 x55_2).f3) = ((rd_T60 l0_1 (ji49)).f3)
       rotate_left
       ·rw [if_neg c54] at H
        have c54b0 : (((rd_T60 l0_1 x55_2).f3) == ((rd_T60 l0_1 (ji49)).f3)) = false := beq_eq_false_iff_ne.mpr c54
        have c54b1 : (((rd_T60 l0_1 x55_2).f3) != ((rd_T60 l0_1 (ji49)).f3)) = true := bne_iff_ne.mpr c54
        by_cases c71 : 0 ≤ ((rd_T60 l0_1 x55_2).f2)
        rotate_left
        ·rw [if_neg c71] at H
         exact absurd H (by simp)
        rw [if_pos c71] at H
        have c71b0 : decide (0 ≤ ((rd_T60 l0_1 x55_2).f2)) = true := decide_eq_true c71
        clear c71
        by_cases c72 : ((rd_T60 l0_1 x55_2).f2) < (x8_2.length : Int)
        rotate_left
        ·rw [if_neg c72] at H
         exact absurd H (by simp)
        rw [if_pos c72] at H
        have c72b0 : decide (((rd_T60 l0_1 x55_2).f2) < (x8_2.length : Int)) = true := decide_eq_true c72
        clear c72
        obtain ⟨y205, hy205⟩ : ∃ y_ : List Int, y_ = (x8_2.set (((rd_T60 l0_1 x55_2).f2) : Int).toNat (wrap64 ((rd x8_2 ((rd_T60 l0_1 x55_2).f2)) + ((rd_T60 l0_1 x55_2).f1)))) := ⟨_, rfl⟩
        replace H : (if 0 ≤ ((rd_T60 l0_1 x55_2).f3) then (if ((rd_T60 l0_1 x55_2).f3) < (x9_2.length : Int) then (sequence_CheckK.l1 kj34 y205 (x9_2.set (((rd_T60 l0_1 x55_2).f3) : Int).toNat (wrap64 ((rd x9_2 ((rd_T60 l0_1 x55_2).f3)) + ((rd_T60 l0_1 x55_2).f1)))) l0_1 (l0_1.length : Int) (wrap64 (x55_2 + 1)) l0_0 l0_1 l0_2 l0_3) else (none)) else (none)) = some (r1, r2) := by first | (rw [hy205]; with_reducible exact H) | (have H2_ := (Option.bind_some _ _).symm.trans H; rw [hy205]; with_reducible exact H2_) | (have H2_ := (Option.bind_some _ _).symm.trans H; with_reducible exact H2_) | with_reducible exact H | (rw [hy205]; exact H) | exact H
        have Ny205 := Aside0.mk hy205
        clear hy205
        by_cases c74 : 0 ≤ ((rd_T60 l0_1 x55_2).f3)
        rotate_left
        ·rw [if_neg c74] at H
         exact absurd H (by simp)
        rw [if_pos c74] at H
        have c74b0 : decide (0 ≤ ((rd_T60 l0_1 x55_2).f3)) = true := decide_eq_true c74
        clear c74
        by_cases c75 : ((rd_T60 l0_1 x55_2).f3) < (x9_2.length : Int)
        rotate_left
        ·rw [if_neg c75] at H
         exact absurd H (by simp)
        rw [if_pos c75] at H
        have c75b0 : decide (((rd_T60 l0_1 x55_2).f3) < (x9_2.length : Int)) = true := decide_eq_true c75
        clear c75
        obtain ⟨y207, hy207⟩ : ∃ y_ : List Int, y_ = (x9_2.set (((rd_T60 l0_1 x55_2).f3) : Int).toNat (wrap64 ((rd x9_2 ((rd_T60 l0_1 x55_2).f3)) + ((rd_T60 l0_1 x55_2).f1)))) := ⟨_, rfl⟩
        replace H : (sequence_CheckK.l1 kj34 y205 y207 l0_1 (l0_1.length : Int) (wrap64 (x55_2 + 1)) l0_0 l0_1 l0_2 l0_3) = some (r1, r2) := by first | (rw [hy207]; with_reducible exact H) | (have H2_ := (Option.bind_some _ _).symm.trans H; rw [hy207]; with_reducible exact H2_) | (have H2_ := (Option.bind_some _ _).symm.trans H; with_reducible exact H2_) | with_reducible exact H | (rw [hy207]; exact H) | exact H
        have Ny207 := Aside0.mk hy207
        clear hy207
        have H' := Aside0.mk H
        clear H
        try go_wp2
        have n0_ := Aside0.mk (Kd.R_drew HO_8.out)
        have n1_ := Aside0.mk (Kd.R_drew HO_9.out)
        have n2_ := Aside0.mk (blk_drew BK181.out)
        have n3_ := Aside0.mk (blk_drew BK196.out)
        have n4_ := Aside0.mk (below_drew1 HB.out)
        clear HO_8; clear HO_9; clear BK181; clear BK196; clear HB; have HO_8 := n0_; have HO_9 := n1_; have BK181 := n2_; have BK196 := n3_; have HB := n4_; clear n0_ n1_ n2_ n3_ n4_
        have p197 : 0 ≤ ((ji49) : Int) := of_decide_eq_true (by first | (with_reducible assumption) | assumption)
        have q197 : (ji49) < (l0_1.length : Int) := of_decide_eq_true (by first | (with_reducible assumption) | assumption)
        obtain ⟨ad197, e197, hx197_0, hx197_1, hx197_2, hx197_3⟩ := at_T60 HR0_1.out (ji49) p197 q197
        have hw197_3 := hx197_3; have hw197_2 := hx197_2; have hw197_1 := hx197_1; have hw197_0 := hx197_0
        obtain rfl : ad195 = ad197 := (by injection e197)
        replace hx197_0 := (HB.out.cell (World.block_lt_of_cell? w _ hx197_0)).trans hx197_0
        replace hx197_1 := (HB.out.cell (World.block_lt_of_cell? w _ hx197_1)).trans hx197_1
        replace hx197_2 := (HB.out.cell (World.block_lt_of_cell? w _ hx197_2)).trans hx197_2
        replace hx197_3 := (HB.out.cell (World.block_lt_of_cell? w _ hx197_3)).trans hx197_3
        replace p197 := eq_true p197
        replace q197 := eq_true q197
        have p198 : 0 ≤ ((ji49) : Int) := of_decide_eq_true (by first | (with_reducible assumption) | assumption)
        have q198 : (ji49) < (l0_1.length : Int) := of_decide_eq_true (by first | (with_reducible assumption) | assumption)
        obtain ⟨ad198, e198, hx198_0, hx198_1, hx198_2, hx198_3⟩ := at_T60 HR0_1.out (ji49) p198 q198
        have hw198_3 := hx198_3; have hw198_2 := hx198_2; have hw198_1 := hx198_1; have hw198_0 := hx198_0
        obtain rfl : ad195 = ad198 := (by injection e198)
        replace hx198_0 := (HB.out.cell (World.block_lt_of_cell? w _ hx198_0)).trans hx198_0
        replace hx198_1 := (HB.out.cell (World.block_lt_of_cell? w _ hx198_1)).trans hx198_1
        replace hx198_2 := (HB.out.cell (World.block_lt_of_cell? w _ hx198_2)).trans hx198_2
        replace hx198_3 := (HB.out.cell (World.block_lt_of_cell? w _ hx198_3)).trans hx198_3
        replace p198 := eq_true p198
        replace q198 := eq_true q198
        refine start_ (n := 38) (S := fun w' => w'.cell? ⟨gb196, 0, none⟩ = some (.int .i64 ((rd_T60 l0_1 x55_2).f0)) ∧ w'.cell? ⟨gb196, 1, none⟩ = some (.int .i64 ((rd_T60 l0_1 x55_2).f1)) ∧ w'.cell? ⟨gb196, 2, none⟩ = some (.int .i64 ((rd_T60 l0_1 x55_2).f2)) ∧ w'.cell? ⟨gb196, 3, none⟩ = some (.int .i64 ((rd_T60 l0_1 x55_2).f3)) ∧ w'.cell? ⟨gb181, 0, none⟩ = some (.slice A0_0 l0_0.length c0_0) ∧ w'.cell? ⟨gb181, 1, none⟩ = some (.slice (some ad195) l0_1.length c0_1) ∧ w'.cell? ⟨gb181, 2, none⟩ = some (.slice A0_2 l0_2.length c0_2) ∧ w'.cell? ⟨gb181, 3, none⟩ = some (.slice A0_3 l0_3.length c0_3) ∧ w'.cell? (ad195.add (((ji49)).toNat * 4)) = some (.int .i64 ((rd_T60 l0_1 (ji49)).f0)) ∧ w'.cell? ⟨(ad195.add (((ji49)).toNat * 4)).block, (ad195.add (((ji49)).toNat * 4)).off + 1, none⟩ = some (.int .i64 ((rd_T60 l0_1 (ji49)).f1)) ∧ w'.cell? ⟨(ad195.add (((ji49)).toNat * 4)).block, (ad195.add (((ji49)).toNat * 4)).off + 2, none⟩ = some (.int .i64 ((rd_T60 l0_1 (ji49)).f2)) ∧ w'.cell? ⟨(ad195.add (((ji49)).toNat * 4)).block, (ad195.add (((ji49)).toNat * 4)).off + 3, none⟩ = some (.int .i64 ((rd_T60 l0_1 (ji49)).f3)) ∧ w'.cell? (ad195.add (((ji49)).toNat * 4)) = some (.int .i64 ((rd_T60 l0_1 (ji49)).f0)) ∧ w'.cell? ⟨(ad195.add (((ji49)).toNat * 4)).block, (ad195.add (((ji49)).toNat * 4)).off + 1, none⟩ = some (.int .i64 ((rd_T60 l0_1 (ji49)).f1)) ∧ w'.cell? ⟨(ad195.add (((ji49)).toNat * 4)).block, (ad195.add (((ji49)).toNat * 4)).off + 2, none⟩ = some (.int .i64 ((rd_T60 l0_1 (ji49)).f2)) ∧ w'.cell? ⟨(ad195.add (((ji49)).toNat * 4)).block, (ad195.add (((ji49)).toNat * 4)).off + 3, none⟩ = some (.int .i64 ((rd_T60 l0_1 (ji49)).f3))) (ds := []) #[false, false, false, false, false, false, false, false, false, false, false, false, false, false, false, false, false, false, false, false, false, false, false, false, false, false, false, false, false, false, false, false, false, false, false, false, false, false] (by kernel_rfl) rfl rfl ⟨(blk_cell BK196.out 0).trans rfl, (blk_cell BK196.out 1).trans rfl, (blk_cell BK196.out 2).trans rfl, (blk_cell BK196.out 3).trans rfl, (blk_cell BK181.out 0).trans rfl, (blk_cell BK181.out 1).trans rfl, (blk_cell BK181.out 2).trans rfl, (blk_cell BK181.out 3).trans rfl, ((HB.out.cell (World.block_lt_of_cell? w _ hw197_0)).trans hw197_0), ((HB.out.cell (World.block_lt_of_cell? w _ hw197_1)).trans hw197_1), ((HB.out.cell (World.block_lt_of_cell? w _ hw197_2)).trans hw197_2), ((HB.out.cell (World.block_lt_of_cell? w _ hw197_3)).trans hw197_3), ((HB.out.cell (World.block_lt_of_cell? w _ hw198_0)).trans hw198_0), ((HB.out.cell (World.block_lt_of_cell? w _ hw198_1)).trans hw198_1), ((HB.out.cell (World.block_lt_of_cell? w _ hw198_2)).trans hw198_2), ((HB.out.cell (World.block_lt_of_cell? w _ hw198_3)).trans hw198_3)⟩ (fun hHeld => ?_); refine with_tabW sequence_CheckK.tab20 sequence_CheckK.bits20 (fun HT_ HW_ => ?_)
        generalize wc.drew = w77 at HO_8 HO_9 BK181 BK196 HB hx197_0 hx197_1 hx197_2 hx197_3 hx198_0 hx198_1 hx198_2 hx198_3 hHeld ⊢
        refine pure_ (i := 0) (N := some 78) (v := ?_) (a' := ?_) zc12_ rfl rfl (any_of HT_.out (by kernel_rfl)) (fun _ _ _ h => h) (Or.inl ⟨by rfl, ?_⟩) ?_ ?_; rotate_left; (·(intro w'; go_simp; with_reducible rfl)); rotate_left; (·(simp only [q1,q2,q3,q4,q5,q6,q7]; rfl))
        refine pure_ (i := 1) (N := some 79) (v := ?_) (a' := ?_) zc13_ rfl rfl (any_of HT_.out (by kernel_rfl)) (fun _ _ _ h => h) (Or.inl ⟨by rfl, ?_⟩) ?_ ?_; rotate_left; (·(intro w'; go_simp; with_reducible rfl)); rotate_left; (·(simp only [q1,q2,q3,q4,q5,q6,q7]; rfl))
        refine pure_ (i := 2) (N := some 80) (v := ?_) (a' := ?_) zc14_ rfl rfl (any_of HT_.out (by kernel_rfl)) (fun _ _ _ h => h) (Or.inl ⟨by rfl, ?_⟩) ?_ ?_; rotate_left; (·(intro w'; go_simp; with_reducible rfl)); rotate_left; (·(simp only [q1,q2,q3,q4,q5,q6,q7]; rfl))
        refine pure_ (i := 3) (N := some 81) (v := ?_) (a' := ?_) zc15_ rfl rfl (any_of HT_.out (by kernel_rfl)) (fun _ _ _ h => h) (Or.inl ⟨by rfl, ?_⟩) ?_ ?_; rotate_left; (·(intro w'; go_simp; with_reducible rfl)); rotate_left; (·(simp only [q1,q2,q3,q4,q5,q6,q7]; rfl))
        refine pure_ (i := 5) (N := some 83) (v := ?_) (a' := ?_) zc16_ rfl rfl (any_of HT_.out (by kernel_rfl)) (fun _ _ _ h => h) (Or.inl ⟨by rfl, ?_⟩) ?_ ?_; rotate_left; (·(intro w'; go_simp; with_reducible rfl)); rotate_left; (·(simp only [q1,q2,q3,q4,q5,q6,q7]; rfl))
        refine pure_ (i := 7) (N := some 85) (v := ?_) (a' := ?_) zc17_ rfl rfl (any_of HT_.out (by kernel_rfl)) (fun _ _ _ h => h) (Or.inl ⟨by rfl, ?_⟩) ?_ ?_; rotate_left; (·(intro w'; go_simp; with_reducible rfl)); rotate_left; (·(simp only [q1,q2,q3,q4,q5,q6,q7]; rfl))
        refine pure_ (i := 8) (N := some 86) (v := ?_) (a' := ?_) zc18_ rfl rfl (any_of HT_.out (by kernel_rfl)) (fun _ _ _ h => h) (Or.inl ⟨by rfl, ?_⟩) ?_ ?_; rotate_left; (·(intro w'; go_simp; with_reducible rfl)); rotate_left; (·(simp only [q1,q2,q3,q4,q5,q6,q7]; rfl))
        refine take_ (i := 4) (N := some 82) (v := ?_) (a' := ?_) zc19_ rfl rfl (take_ofW HT_.out HW_.out (by kernel_rfl)) (fun _ _ _ h => h) (Or.inl ⟨by rfl, ?_⟩) hHeld ?_ ?_; rotate_left; (·(rintro w' ⟨s0, s1, s2, s3, s4, s5, s6, s7, s8, s9, s10, s11, s12, s13, s14, s15⟩; go_simp; with_reducible rfl)); rotate_left; (·(simp only [q1,q2,q3,q4,q5,q6,q7]; rfl))
        refine take_ (i := 6) (N := some 84) (v := ?_) (a' := ?_) zc20_ rfl rfl (take_ofW HT_.out HW_.out (by kernel_rfl)) (fun _ _ _ h => h) (Or.inl ⟨by rfl, ?_⟩) hHeld ?_ ?_; rotate_left; (·(rintro w' ⟨s0, s1, s2, s3, s4, s5, s6, s7, s8, s9, s10, s11, s12, s13, s14, s15⟩; go_simp; with_reducible rfl)); rotate_left; (·(simp only [q1,q2,q3,q4,q5,q6,q7]; rfl))
        refine pure_ (i := 9) (N := some 87) (v := ?_) (a' := ?_) zc21_ rfl rfl (any_of HT_.out (by kernel_rfl)) (fun _ _ _ h => h) (Or.inl ⟨by rfl, ?_⟩) ?_ ?_; rotate_left; (·(intro w'; go_simp; with_reducible rfl)); rotate_left; (·(simp only [q1,q2,q3,q4,q5,q6,q7]; rfl))
        refine pure_ (i := 10) (N := some 88) (v := ?_) (a' := ?_) zc22_ rfl rfl (any_of HT_.out (by kernel_rfl)) (fun _ _ _ h => h) (Or.inl ⟨by rfl, ?_⟩) ?_ ?_; rotate_left; (·(intro w'; go_simp; with_reducible rfl)); rotate_left; (·(simp only [q1,q2,q3,q4,q5,q6,q7]; rfl))
        refine take_ (i := 11) (N := some 89) (v := ?_) (a' := ?_) zc23_ rfl rfl (take_ofW HT_.out HW_.out (by kernel_rfl)) (fun _ _ _ h => h) (Or.inl ⟨by rfl, ?_⟩) hHeld ?_ ?_; rotate_left; (·(rintro w' ⟨s0, s1, s2, s3, s4, s5, s6, s7, s8, s9, s10, s11, s12, s13, s14, s15⟩; go_simp; with_reducible rfl)); rotate_left; (·(simp only [q1,q2,q3,q4,q5,q6,q7]; rfl))
        refine pure_ (i := 12) (N := some 90) (v := ?_) (a' := ?_) zc24_ rfl rfl (any_of HT_.out (by kernel_rfl)) (fun _ _ _ h => h) (Or.inl ⟨by rfl, ?_⟩) ?_ ?_; rotate_left; (·(intro w'; go_simp; with_reducible rfl)); rotate_left; (·(simp only [q1,q2,q3,q4,q5,q6,q7]; rfl))
        refine pure_ (i := 13) (N := some 91) (v := ?_) (a' := ?_) zc25_ rfl rfl (any_of HT_.out (by kernel_rfl)) (fun _ _ _ h => h) (Or.inl ⟨by rfl, ?_⟩) ?_ ?_; rotate_left; (·(intro w'; go_simp; with_reducible rfl)); rotate_left; (·(simp only [q1,q2,q3,q4,q5,q6,q7]; rfl))
        refine pure_ (i := 14) (N := some 92) (v := ?_) (a' := ?_) zc26_ rfl rfl (any_of HT_.out (by kernel_rfl)) (fun _ _ _ h => h) (Or.inl ⟨by rfl, ?_⟩) ?_ ?_; rotate_left; (·(intro w'; go_simp; with_reducible rfl)); rotate_left; (·(simp only [q1,q2,q3,q4,q5,q6,q7]; rfl))
        refine pure_ (i := 16) (N := some 94) (v := ?_) (a' := ?_) zc50_ rfl rfl (any_of HT_.out (by kernel_rfl)) (fun _ _ _ h => h) (Or.inl ⟨by rfl, ?_⟩) ?_ ?_; rotate_left; (·(intro w'; go_simp; with_reducible rfl)); rotate_left; (·(simp only [q1,q2,q3,q4,q5,q6,q7]; rfl))
        refine pure_ (i := 18) (N := some 96) (v := ?_) (a' := ?_) zc51_ rfl rfl (any_of HT_.out (by kernel_rfl)) (fun _ _ _ h => h) (Or.inl ⟨by rfl, ?_⟩) ?_ ?_; rotate_left; (·(intro w'; go_simp; with_reducible rfl)); rotate_left; (·(simp only [q1,q2,q3,q4,q5,q6,q7]; rfl))
        refine pure_ (i := 19) (N := some 97) (v := ?_) (a' := ?_) zc52_ rfl rfl (any_of HT_.out (by kernel_rfl)) (fun _ _ _ h => h) (Or.inl ⟨by rfl, ?_⟩) ?_ ?_; rotate_left; (·(intro w'; go_simp; with_reducible rfl)); rotate_left; (·(simp only [q1,q2,q3,q4,q5,q6,q7]; rfl))
        refine take_ (i := 15) (N := some 93) (v := ?_) (a' := ?_) zc53_ rfl rfl (take_ofW HT_.out HW_.out (by kernel_rfl)) (fun _ _ _ h => h) (Or.inl ⟨by rfl, ?_⟩) hHeld ?_ ?_; rotate_left; (·(rintro w' ⟨s0, s1, s2, s3, s4, s5, s6, s7, s8, s9, s10, s11, s12, s13, s14, s15⟩; go_simp; with_reducible rfl)); rotate_left; (·(simp only [q1,q2,q3,q4,q5,q6,q7]; rfl))
        refine take_ (i := 17) (N := some 95) (v := ?_) (a' := ?_) zc31_ rfl rfl (take_ofW HT_.out HW_.out (by kernel_rfl)) (fun _ _ _ h => h) (Or.inl ⟨by rfl, ?_⟩) hHeld ?_ ?_; rotate_left; (·(rintro w' ⟨s0, s1, s2, s3, s4, s5, s6, s7, s8, s9, s10, s11, s12, s13, s14, s15⟩; go_simp; with_reducible rfl)); rotate_left; (·(simp only [q1,q2,q3,q4,q5,q6,q7]; rfl))
        refine pure_ (i := 20) (N := some 98) (v := ?_) (a' := ?_) zc32_ rfl rfl (any_of HT_.out (by kernel_rfl)) (fun _ _ _ h => h) (Or.inl ⟨by rfl, ?_⟩) ?_ ?_; rotate_left; (·(intro w'; go_simp; with_reducible rfl)); rotate_left; (·(simp only [q1,q2,q3,q4,q5,q6,q7]; rfl))
        refine pure_ (i := 21) (N := some 99) (v := ?_) (a' := ?_) zc33_ rfl rfl (any_of HT_.out (by kernel_rfl)) (fun _ _ _ h => h) (Or.inl ⟨by rfl, ?_⟩) ?_ ?_; rotate_left; (·(intro w'; go_simp; with_reducible rfl)); rotate_left; (·(simp only [q1,q2,q3,q4,q5,q6,q7]; rfl))
        refine take_ (i := 22) (N := some 100) (v := ?_) (a' := ?_) zc34_ rfl rfl (take_ofW HT_.out HW_.out (by kernel_rfl)) (fun _ _ _ h => h) (Or.inl ⟨by rfl, ?_⟩) hHeld ?_ ?_; rotate_left; (·(rintro w' ⟨s0, s1, s2, s3, s4, s5, s6, s7, s8, s9, s10, s11, s12, s13, s14, s15⟩; go_simp; with_reducible rfl)); rotate_left; (·(simp only [q1,q2,q3,q4,q5,q6,q7]; rfl))
        refine pure_ (i := 23) (N := some 101) (v := ?_) (a' := ?_) zc35_ rfl rfl (any_of HT_.out (by kernel_rfl)) (fun _ _ _ h => h) (Or.inl ⟨by rfl, ?_⟩) ?_ ?_; rotate_left; (·(intro w'; go_simp; with_reducible rfl)); rotate_left; (·(simp only [q1,q2,q3,q4,q5,q6,q7]; rfl))
        refine pure_ (i := 24) (N := some 102) (v := ?_) (a' := ?_) zc36_ rfl rfl (any_of HT_.out (by kernel_rfl)) (fun _ _ _ h => h) (Or.inl ⟨by rfl, ?_⟩) ?_ ?_; rotate_left; (·(intro w'; go_simp; with_reducible rfl)); rotate_left; (·(simp only [q1,q2,q3,q4,q5,q6,q7]; rfl))
        refine pure_ (i := 25) (N := some 103) (v := undef) (a' := ?_) zc37_ rfl rfl (any_of HT_.out (by kernel_rfl)) (fun _ _ _ h => h) (Or.inr ⟨by rfl, rfl⟩) ?_ ?_; rotate_left; (·(simp only [q1,q2,q3,q4,q5,q6,q7]; rfl))
        refine pure_ (i := 26) (N := some 104) (v := undef) (a' := ?_) zc38_ rfl rfl (any_of HT_.out (by kernel_rfl)) (fun _ _ _ h => h) (Or.inr ⟨by rfl, rfl⟩) ?_ ?_; rotate_left; (·(simp only [q1,q2,q3,q4,q5,q6,q7]; rfl))
        refine pure_ (i := 27) (N := some 105) (v := undef) (a' := ?_) zc39_ rfl rfl (any_of HT_.out (by kernel_rfl)) (fun _ _ _ h => h) (Or.inr ⟨by rfl, rfl⟩) ?_ ?_; rotate_left; (·(simp only [q1,q2,q3,q4,q5,q6,q7]; rfl))
        refine pure_ (i := 28) (N := some 106) (v := undef) (a' := ?_) zc40_ rfl rfl (any_of HT_.out (by kernel_rfl)) (fun _ _ _ h => h) (Or.inr ⟨by rfl, rfl⟩) ?_ ?_; rotate_left; (·(simp only [q1,q2,q3,q4,q5,q6,q7]; rfl))
        refine pure_ (i := 29) (N := some 107) (v := undef) (a' := ?_) zc41_ rfl rfl (any_of HT_.out (by kernel_rfl)) (fun _ _ _ h => h) (Or.inr ⟨by rfl, rfl⟩) ?_ ?_; rotate_left; (·(simp only [q1,q2,q3,q4,q5,q6,q7]; rfl))
        refine pure_ (i := 30) (N := some 108) (v := undef) (a' := ?_) zc42_ rfl rfl (any_of HT_.out (by kernel_rfl)) (fun _ _ _ h => h) (Or.inr ⟨by rfl, rfl⟩) ?_ ?_; rotate_left; (·(simp only [q1,q2,q3,q4,q5,q6,q7]; rfl))
        refine pure_ (i := 31) (N := some 109) (v := undef) (a' := ?_) zc43_ rfl rfl (any_of HT_.out (by kernel_rfl)) (fun _ _ _ h => h) (Or.inr ⟨by rfl, rfl⟩) ?_ ?_; rotate_left; (·(simp only [q1,q2,q3,q4,q5,q6,q7]; rfl))
        refine pure_ (i := 32) (N := some 110) (v := undef) (a' := ?_) zc44_ rfl rfl (any_of HT_.out (by kernel_rfl)) (fun _ _ _ h => h) (Or.inr ⟨by rfl, rfl⟩) ?_ ?_; rotate_left; (·(simp only [q1,q2,q3,q4,q5,q6,q7]; rfl))
        refine pure_ (i := 33) (N := some 111) (v := undef) (a' := ?_) zc45_ rfl rfl (any_of HT_.out (by kernel_rfl)) (fun _ _ _ h => h) (Or.inr ⟨by rfl, rfl⟩) ?_ ?_; rotate_left; (·(simp only [q1,q2,q3,q4,q5,q6,q7]; rfl))
        refine pure_ (i := 34) (N := some 112) (v := undef) (a' := ?_) zc46_ rfl rfl (any_of HT_.out (by kernel_rfl)) (fun _ _ _ h => h) (Or.inr ⟨by rfl, rfl⟩) ?_ ?_; rotate_left; (·(simp only [q1,q2,q3,q4,q5,q6,q7]; rfl))
        refine pure_ (i := 35) (N := some 113) (v := ?_) (a' := ?_) zc47_ rfl rfl (any_of HT_.out (by kernel_rfl)) (fun _ _ _ h => h) (Or.inl ⟨by rfl, ?_⟩) ?_ ?_; rotate_left; (·(intro w'; go_simp; with_reducible rfl)); rotate_left; (·(simp only [q1,q2,q3,q4,q5,q6,q7]; rfl))
        refine pure_ (i := 36) (N := some 114) (v := ?_) (a' := ?_) zc48_ rfl rfl (any_of HT_.out (by kernel_rfl)) (fun _ _ _ h => h) (Or.inl ⟨by rfl, ?_⟩) ?_ ?_; rotate_left; (·(intro w'; go_simp; with_reducible rfl)); rotate_left; (·(simp only [q1,q2,q3,q4,q5,q6,q7]; rfl))
        refine pure_ (i := 37) (N := some 115) (v := ?_) (a' := ?_) zc49_ rfl rfl (any_of HT_.out (by kernel_rfl)) (fun _ _ _ h => h) (Or.inl ⟨by rfl, ?_⟩) ?_ ?_; rotate_left; (·(intro w'; go_simp; with_reducible rfl)); rotate_left; (·(simp only [q1,q2,q3,q4,q5,q6,q7]; rfl))
        refine done_ (done_of HT_.out (by kernel_rfl)) ?_
        try go_wp2
        have n0_ := Aside0.mk (Kd.R_drew HO_8.out)
        have n1_ := Aside0.mk (Kd.R_drew HO_9.out)
        have n2_ := Aside0.mk (blk_drew BK181.out)
        have n3_ := Aside0.mk (blk_drew BK196.out)
        have n4_ := Aside0.mk (below_drew1 HB.out)
        clear HO_8; clear HO_9; clear BK181; clear BK196; clear HB; have HO_8 := n0_; have HO_9 := n1_; have BK181 := n2_; have BK196 := n3_; have HB := n4_; clear n0_ n1_ n2_ n3_ n4_
        obtain ⟨Ao79, co79, eo79⟩ := Kd.R_slice HO_8.out
        (first | subst eo79 | (injection eo79 with f1_ f2_ f3_; have f4_ := f1_.symm; have f5_ := f3_.symm; clear f1_ f2_ f3_; subst f4_; subst f5_))
        have p204 : 0 ≤ (((rd_T60 l0_1 x55_2).f2) : Int) := of_decide_eq_true (by first | (with_reducible assumption) | assumption)
        have q204 : ((rd_T60 l0_1 x55_2).f2) < (x8_2.length : Int) := of_decide_eq_true (by first | (with_reducible assumption) | assumption)
        obtain ⟨ad204, e204, hx204_0⟩ := Kd.at_int (Kd.R_reads' HO_8.out).2.2 ((rd_T60 l0_1 x55_2).f2) p204 q204
        cases e204
        replace p204 := eq_true p204
        replace q204 := eq_true q204
        have p73 : 0 ≤ (((rd_T60 l0_1 x55_2).f2) : Int) := of_decide_eq_true (by first | (with_reducible assumption) | assumption)
        have q73 : (((rd_T60 l0_1 x55_2).f2) : Int) < ((x8_2.length : Int) : Int) := of_decide_eq_true (by first | (with_reducible assumption) | assumption)
        obtain ⟨go73, co73, eo73, gb73, gl73, cl73, HG73⟩ := Kd.R_form HO_8.out (by omega)
        (first | cases eo73 | (injection eo73 with ea_ en_ ec_; (first | subst ea_ | (injection ea_ with ea_; subst ea_)); subst ec_; clear en_))
        have GB73 := Aside0.mk gb73
        have GG73 := Aside0.mk HG73
        clear gb73 gl73 HG73
        (first | simp only [add_plain] at hx204_0 | skip)
        obtain ⟨hx73_0, hf73_0⟩ := Kd.R_celln 0 HO_8.out (((rd_T60 l0_1 x55_2).f2) : Int) p73 q73
        replace p73 := eq_true p73
        replace q73 := eq_true q73
        have HP80 := Kd.R_putn HO_8.out (((rd_T60 l0_1 x55_2).f2) : Int) (wrap64 ((rd x8_2 ((rd_T60 l0_1 x55_2).f2)) + ((rd_T60 l0_1 x55_2).f1)))
        rw [← Ny205.out] at HP80
        have HQ80 := Aside0.mk HP80
        clear HP80
        refine start_ (n := 10) (S := fun w' => w'.cell? ⟨gb196, 0, none⟩ = some (.int .i64 ((rd_T60 l0_1 x55_2).f0)) ∧ w'.cell? ⟨gb196, 1, none⟩ = some (.int .i64 ((rd_T60 l0_1 x55_2).f1)) ∧ w'.cell? ⟨gb196, 2, none⟩ = some (.int .i64 ((rd_T60 l0_1 x55_2).f2)) ∧ w'.cell? ⟨gb196, 3, none⟩ = some (.int .i64 ((rd_T60 l0_1 x55_2).f3)) ∧ w'.cell? ⟨go73, ((rd_T60 l0_1 x55_2).f2).toNat, none⟩ = some (.int .i64 (rd x8_2 ((rd_T60 l0_1 x55_2).f2)))) (ds := [9]) #[false, false, false, false, false, false, false, false, false, false] (by kernel_rfl) rfl rfl ⟨(blk_cell BK196.out 0).trans rfl, (blk_cell BK196.out 1).trans rfl, (blk_cell BK196.out 2).trans rfl, (blk_cell BK196.out 3).trans rfl, hx204_0⟩ (fun hHeld => ?_); refine with_tabW sequence_CheckK.tab22 sequence_CheckK.bits22 (fun HT_ HW_ => ?_)
        generalize w77.drew = w78 at HO_8 HO_9 BK181 BK196 HB GG73 HQ80 hf73_0 hx204_0 hx73_0 hHeld ⊢
        refine pure_ (i := 0) (N := some 117) (v := ?_) (a' := ?_) zc0_ rfl rfl (any_of HT_.out (by kernel_rfl)) (fun _ _ _ h => h) (Or.inl ⟨by rfl, ?_⟩) ?_ ?_; rotate_left; (·(intro w'; go_simp; with_reducible rfl)); rotate_left; (·(simp only [q1,q2,q3,q4,q5,q6,q7]; rfl))
        refine pure_ (i := 1) (N := some 118) (v := ?_) (a' := ?_) zc58_ rfl rfl (any_of HT_.out (by kernel_rfl)) (fun _ _ _ h => h) (Or.inl ⟨by rfl, ?_⟩) ?_ ?_; rotate_left; (·(intro w'; go_simp; with_reducible rfl)); rotate_left; (·(simp only [q1,q2,q3,q4,q5,q6,q7]; rfl))
        refine pure_ (i := 5) (N := some 122) (v := ?_) (a' := ?_) zc59_ rfl rfl (any_of HT_.out (by kernel_rfl)) (fun _ _ _ h => h) (Or.inl ⟨by rfl, ?_⟩) ?_ ?_; rotate_left; (·(intro w'; go_simp; with_reducible rfl)); rotate_left; (·(simp only [q1,q2,q3,q4,q5,q6,q7]; rfl))
        refine take_ (i := 2) (N := some 119) (v := ?_) (a' := ?_) zc60_ rfl rfl (take_ofW HT_.out HW_.out (by kernel_rfl)) (fun _ _ _ h => h) (Or.inl ⟨by rfl, ?_⟩) hHeld ?_ ?_; rotate_left; (·(rintro w' ⟨s0, s1, s2, s3, s4⟩; go_simp; with_reducible rfl)); rotate_left; (·(simp only [q1,q2,q3,q4,q5,q6,q7]; rfl))
        refine pure_ (i := 3) (N := some 120) (v := ?_) (a' := ?_) zc61_ rfl rfl (any_of HT_.out (by kernel_rfl)) (fun _ _ _ h => h) (Or.inl ⟨by rfl, ?_⟩) ?_ ?_; rotate_left; (·(intro w'; go_simp; with_reducible rfl)); rotate_left; (·(simp only [q1,q2,q3,q4,q5,q6,q7]; rfl))
        refine take_ (i := 4) (N := some 121) (v := ?_) (a' := ?_) zc62_ rfl rfl (take_ofW HT_.out HW_.out (by kernel_rfl)) (fun _ _ _ h => h) (Or.inl ⟨by rfl, ?_⟩) hHeld ?_ ?_; rotate_left; (·(rintro w' ⟨s0, s1, s2, s3, s4⟩; go_simp; with_reducible rfl)); rotate_left; (·(simp only [q1,q2,q3,q4,q5,q6,q7]; rfl))
        refine take_ (i := 6) (N := some 123) (v := ?_) (a' := ?_) zc7_ rfl rfl (take_ofW HT_.out HW_.out (by kernel_rfl)) (fun _ _ _ h => h) (Or.inl ⟨by rfl, ?_⟩) hHeld ?_ ?_; rotate_left; (·(rintro w' ⟨s0, s1, s2, s3, s4⟩; go_simp; with_reducible rfl)); rotate_left; (·(simp only [q1,q2,q3,q4,q5,q6,q7]; rfl))
        refine pure_ (i := 7) (N := some 124) (v := ?_) (a' := ?_) zc10_ rfl rfl (any_of HT_.out (by kernel_rfl)) (fun _ _ _ h => h) (Or.inl ⟨by rfl, ?_⟩) ?_ ?_; rotate_left; (·(intro w'; go_simp; with_reducible rfl)); rotate_left; (·(simp only [q1,q2,q3,q4,q5,q6,q7]; rfl))
        refine pure_ (i := 8) (N := some 125) (v := ?_) (a' := ?_) zc6_ rfl rfl (any_of HT_.out (by kernel_rfl)) (fun _ _ _ h => h) (Or.inl ⟨by rfl, ?_⟩) ?_ ?_; rotate_left; (·(intro w'; go_simp; with_reducible rfl)); rotate_left; (·(simp only [q1,q2,q3,q4,q5,q6,q7]; rfl))
        refine last_ (i := 9) (N := none) zc11_ rfl rfl (one_of HT_.out (by kernel_rfl)) (by decide) (fun K hK => ?_)
        refine skip_ (w1 := ?_) (by rfl) rfl ?_ ?_
        rotate_left; (·(go_simp; rfl))
        refine hK.out _ _ ?_
        clear hK K
        refine done_ (done_of HT_.out (by kernel_rfl)) ?_
        try go_wp2
        have n0_ : Aside0 (Kd.R (Kd.int .i64) 3 (w78.setCell ⟨go73, (((rd_T60 l0_1 x55_2).f2) : Int).toNat, none⟩ (.int .i64 (wrap64 ((rd x8_2 ((rd_T60 l0_1 x55_2).f2)) + ((rd_T60 l0_1 x55_2).f1))))) w.heap.size (fun k_ => some k_ ≠ (v193 : Value).ownBlock) (.slice (some ⟨go73, 0, none⟩) x8_2.length co79) y205) := ⟨by (with_reducible repeat (first | apply Kd.R_alloc | apply Kd.R_drewN | apply Kd.R_drew)); exact HQ80.out⟩
        have n1_ : Aside0 (Kd.R (Kd.int .i64) 3 (w78.setCell ⟨go73, (((rd_T60 l0_1 x55_2).f2) : Int).toNat, none⟩ (.int .i64 (wrap64 ((rd x8_2 ((rd_T60 l0_1 x55_2).f2)) + ((rd_T60 l0_1 x55_2).f1))))) w.heap.size (fun k_ => some k_ ≠ (.slice (some ⟨go73, 0, none⟩) x8_2.length co79 : Value).ownBlock) v193 x9_2) := ⟨by (with_reducible repeat (first | apply Kd.R_alloc | apply Kd.R_drewN | apply Kd.R_drew)); exact Kd.R_mono (Kd.R_far (p := ⟨go73, (((rd_T60 l0_1 x55_2).f2) : Int).toNat, none⟩) (Kd.R_mono HO_9.out (fun k_ hk => (⟨hk, fun e_ => hk (by rw [e_]; rfl)⟩ : _ ∧ k_ ≠ go73))) (fun _ hk => hk.2) (.int .i64 (wrap64 ((rd x8_2 ((rd_T60 l0_1 x55_2).f2)) + ((rd_T60 l0_1 x55_2).f1))))) (fun _ hk => hk.1)⟩
        have n2_ : Aside0 ((w78.setCell ⟨go73, (((rd_T60 l0_1 x55_2).f2) : Int).toNat, none⟩ (.int .i64 (wrap64 ((rd x8_2 ((rd_T60 l0_1 x55_2).f2)) + ((rd_T60 l0_1 x55_2).f1))))).heap[gb181]? = some (.cells #[.slice A0_0 l0_0.length c0_0, .slice (some ad195) l0_1.length c0_1, .slice A0_2 l0_2.length c0_2, .slice A0_3 l0_3.length c0_3] 38 (0, 0))) := ⟨by (with_reducible repeat (first | refine blk_drewN ?_ _ | refine blk_drew ?_ | refine blk_alloc ?_ _)); refine blk_far ?_ (by have h_ := Kd.R_ne HO_8.out BK181.out (by decide); intro e_; exact h_ (by rw [e_]; rfl)) _; (with_reducible repeat (first | refine blk_drewN ?_ _ | refine blk_drew ?_ | refine blk_alloc ?_ _)); exact BK181.out⟩
        have n3_ : Aside0 ((w78.setCell ⟨go73, (((rd_T60 l0_1 x55_2).f2) : Int).toNat, none⟩ (.int .i64 (wrap64 ((rd x8_2 ((rd_T60 l0_1 x55_2).f2)) + ((rd_T60 l0_1 x55_2).f1))))).heap[gb196]? = some (.cells #[.int .i64 ((rd_T60 l0_1 x55_2).f0), .int .i64 ((rd_T60 l0_1 x55_2).f1), .int .i64 ((rd_T60 l0_1 x55_2).f2), .int .i64 ((rd_T60 l0_1 x55_2).f3)] 60 (0, 0))) := ⟨by (with_reducible repeat (first | refine blk_drewN ?_ _ | refine blk_drew ?_ | refine blk_alloc ?_ _)); refine blk_far ?_ (by have h_ := Kd.R_ne HO_8.out BK196.out (by decide); intro e_; exact h_ (by rw [e_]; rfl)) _; (with_reducible repeat (first | refine blk_drewN ?_ _ | refine blk_drew ?_ | refine blk_alloc ?_ _)); exact BK196.out⟩
        have n4_ : Aside0 (Below w.heap.size w (w78.setCell ⟨go73, (((rd_T60 l0_1 x55_2).f2) : Int).toNat, none⟩ (.int .i64 (wrap64 ((rd x8_2 ((rd_T60 l0_1 x55_2).f2)) + ((rd_T60 l0_1 x55_2).f1)))))) := ⟨by repeat (first | (with_reducible first | exact HB.out | apply below_alloc | apply pw_below_drewN | apply below_drew1 | refine below_set ?_ GB73.out | refine below_set ?_ GE181.out | refine below_set ?_ GE196.out) | exact HB.out)⟩
        (try clear HO_8)
        (try clear HO_9)
        (try clear BK181)
        (try clear BK196)
        (try clear HB)
        generalize (w78.setCell ⟨go73, (((rd_T60 l0_1 x55_2).f2) : Int).toNat, none⟩ (.int .i64 (wrap64 ((rd x8_2 ((rd_T60 l0_1 x55_2).f2)) + ((rd_T60 l0_1 x55_2).f1))))) = w81 at n0_ n1_ n2_ n3_ n4_ ⊢
        have HO_8 := n0_; have HO_9 := n1_; have BK181 := n2_; have BK196 := n3_; have HB := n4_; clear n0_ n1_ n2_ n3_ n4_
        have n0_ := Aside0.mk (Kd.R_drew HO_8.out)
        have n1_ := Aside0.mk (Kd.R_drew HO_9.out)
        have n2_ := Aside0.mk (blk_drew BK181.out)
        have n3_ := Aside0.mk (blk_drew BK196.out)
        have n4_ := Aside0.mk (below_drew1 HB.out)
        clear HO_8; clear HO_9; clear BK181; clear BK196; clear HB; have HO_8 := n0_; have HO_9 := n1_; have BK181 := n2_; have BK196 := n3_; have HB := n4_; clear n0_ n1_ n2_ n3_ n4_
        obtain ⟨Ao83, co83, eo83⟩ := Kd.R_slice HO_9.out
        (first | subst eo83 | (injection eo83 with f1_ f2_ f3_; have f4_ := f1_.symm; have f5_ := f3_.symm; clear f1_ f2_ f3_; subst f4_; subst f5_))
        have p206 : 0 ≤ (((rd_T60 l0_1 x55_2).f3) : Int) := of_decide_eq_true (by first | (with_reducible assumption) | assumption)
        have q206 : ((rd_T60 l0_1 x55_2).f3) < (x9_2.length : Int) := of_decide_eq_true (by first | (with_reducible assumption) | assumption)
        obtain ⟨ad206, e206, hx206_0⟩ := Kd.at_int (Kd.R_reads' HO_9.out).2.2 ((rd_T60 l0_1 x55_2).f3) p206 q206
        cases e206
        replace p206 := eq_true p206
        replace q206 := eq_true q206
        have p76 : 0 ≤ (((rd_T60 l0_1 x55_2).f3) : Int) := of_decide_eq_true (by first | (with_reducible assumption) | assumption)
        have q76 : (((rd_T60 l0_1 x55_2).f3) : Int) < ((x9_2.length : Int) : Int) := of_decide_eq_true (by first | (with_reducible assumption) | assumption)
        obtain ⟨go76, co76, eo76, gb76, gl76, cl76, HG76⟩ := Kd.R_form HO_9.out (by omega)
        (first | cases eo76 | (injection eo76 with ea_ en_ ec_; (first | subst ea_ | (injection ea_ with ea_; subst ea_)); subst ec_; clear en_))
        have GB76 := Aside0.mk gb76
        have GG76 := Aside0.mk HG76
        clear gb76 gl76 HG76
        (first | simp only [add_plain] at hx206_0 | skip)
        obtain ⟨hx76_0, hf76_0⟩ := Kd.R_celln 0 HO_9.out (((rd_T60 l0_1 x55_2).f3) : Int) p76 q76
        replace p76 := eq_true p76
        replace q76 := eq_true q76
        have HP84 := Kd.R_putn HO_9.out (((rd_T60 l0_1 x55_2).f3) : Int) (wrap64 ((rd x9_2 ((rd_T60 l0_1 x55_2).f3)) + ((rd_T60 l0_1 x55_2).f1)))
        rw [← Ny207.out] at HP84
        have HQ84 := Aside0.mk HP84
        clear HP84
        refine start_ (n := 10) (S := fun w' => w'.cell? ⟨gb196, 0, none⟩ = some (.int .i64 ((rd_T60 l0_1 x55_2).f0)) ∧ w'.cell? ⟨gb196, 1, none⟩ = some (.int .i64 ((rd_T60 l0_1 x55_2).f1)) ∧ w'.cell? ⟨gb196, 2, none⟩ = some (.int .i64 ((rd_T60 l0_1 x55_2).f2)) ∧ w'.cell? ⟨gb196, 3, none⟩ = some (.int .i64 ((rd_T60 l0_1 x55_2).f3)) ∧ w'.cell? ⟨go76, ((rd_T60 l0_1 x55_2).f3).toNat, none⟩ = some (.int .i64 (rd x9_2 ((rd_T60 l0_1 x55_2).f3)))) (ds := [9]) #[false, false, false, false, false, false, false, false, false, false] (by kernel_rfl) rfl rfl ⟨(blk_cell BK196.out 0).trans rfl, (blk_cell BK196.out 1).trans rfl, (blk_cell BK196.out 2).trans rfl, (blk_cell BK196.out 3).trans rfl, hx206_0⟩ (fun hHeld => ?_); refine with_tabW sequence_CheckK.tab23 sequence_CheckK.bits23 (fun HT_ HW_ => ?_)
        generalize w81.drew = w82 at HO_8 HO_9 BK181 BK196 HB GG76 HQ80 HQ84 hf76_0 hx206_0 hx76_0 hHeld ⊢
        refine pure_ (i := 0) (N := some 126) (v := ?_) (a' := ?_) zc0_ rfl rfl (any_of HT_.out (by kernel_rfl)) (fun _ _ _ h => h) (Or.inl ⟨by rfl, ?_⟩) ?_ ?_; rotate_left; (·(intro w'; go_simp; with_reducible rfl)); rotate_left; (·(simp only [q1,q2,q3,q4,q5,q6,q7]; rfl))
        refine pure_ (i := 1) (N := some 127) (v := ?_) (a' := ?_) zc58_ rfl rfl (any_of HT_.out (by kernel_rfl)) (fun _ _ _ h => h) (Or.inl ⟨by rfl, ?_⟩) ?_ ?_; rotate_left; (·(intro w'; go_simp; with_reducible rfl)); rotate_left; (·(simp only [q1,q2,q3,q4,q5,q6,q7]; rfl))
        refine pure_ (i := 5) (N := some 131) (v := ?_) (a' := ?_) zc59_ rfl rfl (any_of HT_.out (by kernel_rfl)) (fun _ _ _ h => h) (Or.inl ⟨by rfl, ?_⟩) ?_ ?_; rotate_left; (·(intro w'; go_simp; with_reducible rfl)); rotate_left; (·(simp only [q1,q2,q3,q4,q5,q6,q7]; rfl))
        refine take_ (i := 2) (N := some 128) (v := ?_) (a' := ?_) zc60_ rfl rfl (take_ofW HT_.out HW_.out (by kernel_rfl)) (fun _ _ _ h => h) (Or.inl ⟨by rfl, ?_⟩) hHeld ?_ ?_; rotate_left; (·(rintro w' ⟨s0, s1, s2, s3, s4⟩; go_simp; with_reducible rfl)); rotate_left; (·(simp only [q1,q2,q3,q4,q5,q6,q7]; rfl))
        refine pure_ (i := 3) (N := some 129) (v := ?_) (a' := ?_) zc61_ rfl rfl (any_of HT_.out (by kernel_rfl)) (fun _ _ _ h => h) (Or.inl ⟨by rfl, ?_⟩) ?_ ?_; rotate_left; (·(intro w'; go_simp; with_reducible rfl)); rotate_left; (·(simp only [q1,q2,q3,q4,q5,q6,q7]; rfl))
        refine take_ (i := 4) (N := some 130) (v := ?_) (a' := ?_) zc62_ rfl rfl (take_ofW HT_.out HW_.out (by kernel_rfl)) (fun _ _ _ h => h) (Or.inl ⟨by rfl, ?_⟩) hHeld ?_ ?_; rotate_left; (·(rintro w' ⟨s0, s1, s2, s3, s4⟩; go_simp; with_reducible rfl)); rotate_left; (·(simp only [q1,q2,q3,q4,q5,q6,q7]; rfl))
        refine take_ (i := 6) (N := some 132) (v := ?_) (a' := ?_) zc7_ rfl rfl (take_ofW HT_.out HW_.out (by kernel_rfl)) (fun _ _ _ h => h) (Or.inl ⟨by rfl, ?_⟩) hHeld ?_ ?_; rotate_left; (·(rintro w' ⟨s0, s1, s2, s3, s4⟩; go_simp; with_reducible rfl)); rotate_left; (·(simp only [q1,q2,q3,q4,q5,q6,q7]; rfl))
        refine pure_ (i := 7) (N := some 133) (v := ?_) (a' := ?_) zc10_ rfl rfl (any_of HT_.out (by kernel_rfl)) (fun _ _ _ h => h) (Or.inl ⟨by rfl, ?_⟩) ?_ ?_; rotate_left; (·(intro w'; go_simp; with_reducible rfl)); rotate_left; (·(simp only [q1,q2,q3,q4,q5,q6,q7]; rfl))
        refine pure_ (i := 8) (N := some 134) (v := ?_) (a' := ?_) zc6_ rfl rfl (any_of HT_.out (by kernel_rfl)) (fun _ _ _ h => h) (Or.inl ⟨by rfl, ?_⟩) ?_ ?_; rotate_left; (·(intro w'; go_simp; with_reducible rfl)); rotate_left; (·(simp only [q1,q2,q3,q4,q5,q6,q7]; rfl))
        refine last_ (i := 9) (N := none) zc11_ rfl rfl (one_of HT_.out (by kernel_rfl)) (by decide) (fun K hK => ?_)
        refine skip_ (w1 := ?_) (by rfl) rfl ?_ ?_
        rotate_left; (·(go_simp; rfl))
        refine hK.out _ _ ?_
        clear hK K
        refine done_ (done_of HT_.out (by kernel_rfl)) ?_
        try go_wp2
        go_roundg kj34
        case measure => have := HK1.out; have := HK2.out; have := HJ34.out; omega
        case rel => exact ⟨(y205), (y207), (wrap64 (x55_2 + 1)), (by first | rfl | (simp; done) | (simp [*]; done)), H', ⟨by have := HK1.out; have := HK2.out; have := HJ34.out; omega⟩, ⟨by (with_reducible repeat (first | apply Kd.R_alloc | apply Kd.R_drewN | apply Kd.R_drew)); exact Kd.R_mono (Kd.R_far (p := ⟨go76, (((rd_T60 l0_1 x55_2).f3) : Int).toNat, none⟩) (Kd.R_mono HO_8.out (fun k_ hk => (⟨hk, fun e_ => hk (by rw [e_]; rfl)⟩ : _ ∧ k_ ≠ go76))) (fun _ hk => hk.2) (.int .i64 (wrap64 ((rd x9_2 ((rd_T60 l0_1 x55_2).f3)) + ((rd_T60 l0_1 x55_2).f1))))) (fun _ hk => hk.1)⟩, ⟨by (with_reducible repeat (first | apply Kd.R_alloc | apply Kd.R_drewN | apply Kd.R_drew)); exact HQ84.out⟩, ⟨by (with_reducible repeat (first | refine blk_drewN ?_ _ | refine blk_drew ?_ | refine blk_alloc ?_ _)); refine blk_far ?_ (by have h_ := Kd.R_ne HO_9.out BK181.out (by decide); intro e_; exact h_ (by rw [e_]; rfl)) _; (with_reducible repeat (first | refine blk_drewN ?_ _ | refine blk_drew ?_ | refine blk_alloc ?_ _)); exact BK181.out⟩, ⟨by repeat (first | (with_reducible first | exact HB.out | apply below_alloc | apply pw_below_drewN | apply below_drew1 | refine below_set ?_ GB76.out | refine below_set ?_ GE181.out | refine below_set ?_ GE196.out) | exact HB.out)⟩⟩
       rw [if_pos c54] at H
       have c54b0 : (((rd_T60 l0_1 x55_2).f3) == ((rd_T60 l0_1 (ji49)).f3)) = true := beq_iff_eq.mpr c54
       have c54b1 : (((rd_T60 l0_1 x55_2).f3) != ((rd_T60 l0_1 (ji49)).f3)) = false := bne_eq_false_iff_eq.mpr c54
       clear c54
       by_cases c55 : ((rd_T60 l0_1 x55_2).f2) ≤ ((rd_T60 l0_1 (ji49)).f2)
       ·rw [if_pos c55] at H
        have c55b0 : decide (((rd_T60 l0_1 x55_2).f2) ≤ ((rd_T60 l0_1 (ji49)).f2)) = true := decide_eq_true c55
        clear c55
        simp only [Option.some.injEq, Prod.mk.injEq] at H
        obtain ⟨rfl, rfl⟩ := H
        try go_wp2
        have n0_ := Aside0.mk (Kd.R_drew HO_8.out)
        have n1_ := Aside0.mk (Kd.R_drew HO_9.out)
        have n2_ := Aside0.mk (blk_drew BK181.out)
        have n3_ := Aside0.mk (blk_drew BK196.out)
        have n4_ := Aside0.mk (below_drew1 HB.out)
        clear HO_8; clear HO_9; clear BK181; clear BK196; clear HB; have HO_8 := n0_; have HO_9 := n1_; have BK181 := n2_; have BK196 := n3_; have HB := n4_; clear n0_ n1_ n2_ n3_ n4_
        have p197 : 0 ≤ ((ji49) : Int) := of_decide_eq_true (by first | (with_reducible assumption) | assumption)
        have q197 : (ji49) < (l0_1.length : Int) := of_decide_eq_true (by first | (with_reducible assumption) | assumption)
        obtain ⟨ad197, e197, hx197_0, hx197_1, hx197_2, hx197_3⟩ := at_T60 HR0_1.out (ji49) p197 q197
        have hw197_3 := hx197_3; have hw197_2 := hx197_2; have hw197_1 := hx197_1; have hw197_0 := hx197_0
        obtain rfl : ad195 = ad197 := (by injection e197)
        replace hx197_0 := (HB.out.cell (World.block_lt_of_cell? w _ hx197_0)).trans hx197_0
        replace hx197_1 := (HB.out.cell (World.block_lt_of_cell? w _ hx197_1)).trans hx197_1
        replace hx197_2 := (HB.out.cell (World.block_lt_of_cell? w _ hx197_2)).trans hx197_2
        replace hx197_3 := (HB.out.cell (World.block_lt_of_cell? w _ hx197_3)).trans hx197_3
        replace p197 := eq_true p197
        replace q197 := eq_true q197
        have p198 : 0 ≤ ((ji49) : Int) := of_decide_eq_true (by first | (with_reducible assumption) | assumption)
        have q198 : (ji49) < (l0_1.length : Int) := of_decide_eq_true (by first | (with_reducible assumption) | assumption)
        obtain ⟨ad198, e198, hx198_0, hx198_1, hx198_2, hx198_3⟩ := at_T60 HR0_1.out (ji49) p198 q198
        have hw198_3 := hx198_3; have hw198_2 := hx198_2; have hw198_1 := hx198_1; have hw198_0 := hx198_0
        obtain rfl : ad195 = ad198 := (by injection e198)
        replace hx198_0 := (HB.out.cell (World.block_lt_of_cell? w _ hx198_0)).trans hx198_0
        replace hx198_1 := (HB.out.cell (World.block_lt_of_cell? w _ hx198_1)).trans hx198_1
        replace hx198_2 := (HB.out.cell (World.block_lt_of_cell? w _ hx198_2)).trans hx198_2
        replace hx198_3 := (HB.out.cell (World.block_lt_of_cell? w _ hx198_3)).trans hx198_3
        replace p198 := eq_true p198
        replace q198 := eq_true q198
        have p199 : 0 ≤ ((ji49) : Int) := of_decide_eq_true (by first | (with_reducible assumption) | assumption)
        have q199 : (ji49) < (l0_1.length : Int) := of_decide_eq_true (by first | (with_reducible assumption) | assumption)
        obtain ⟨ad199, e199, hx199_0, hx199_1, hx199_2, hx199_3⟩ := at_T60 HR0_1.out (ji49) p199 q199
        have hw199_3 := hx199_3; have hw199_2 := hx199_2; have hw199_1 := hx199_1; have hw199_0 := hx199_0
        obtain rfl : ad195 = ad199 := (by injection e199)
        replace hx199_0 := (HB.out.cell (World.block_lt_of_cell? w _ hx199_0)).trans hx199_0
        replace hx199_1 := (HB.out.cell (World.block_lt_of_cell? w _ hx199_1)).trans hx199_1
        replace hx199_2 := (HB.out.cell (World.block_lt_of_cell? w _ hx199_2)).trans hx199_2
        replace hx199_3 := (HB.out.cell (World.block_lt_of_cell? w _ hx199_3)).trans hx199_3
        replace p199 := eq_true p199
        replace q199 := eq_true q199
        refine start_ (n := 38) (S := fun w' => w'.cell? ⟨gb196, 0, none⟩ = some (.int .i64 ((rd_T60 l0_1 x55_2).f0)) ∧ w'.cell? ⟨gb196, 1, none⟩ = some (.int .i64 ((rd_T60 l0_1 x55_2).f1)) ∧ w'.cell? ⟨gb196, 2, none⟩ = some (.int .i64 ((rd_T60 l0_1 x55_2).f2)) ∧ w'.cell? ⟨gb196, 3, none⟩ = some (.int .i64 ((rd_T60 l0_1 x55_2).f3)) ∧ w'.cell? ⟨gb181, 0, none⟩ = some (.slice A0_0 l0_0.length c0_0) ∧ w'.cell? ⟨gb181, 1, none⟩ = some (.slice (some ad195) l0_1.length c0_1) ∧ w'.cell? ⟨gb181, 2, none⟩ = some (.slice A0_2 l0_2.length c0_2) ∧ w'.cell? ⟨gb181, 3, none⟩ = some (.slice A0_3 l0_3.length c0_3) ∧ w'.cell? (ad195.add (((ji49)).toNat * 4)) = some (.int .i64 ((rd_T60 l0_1 (ji49)).f0)) ∧ w'.cell? ⟨(ad195.add (((ji49)).toNat * 4)).block, (ad195.add (((ji49)).toNat * 4)).off + 1, none⟩ = some (.int .i64 ((rd_T60 l0_1 (ji49)).f1)) ∧ w'.cell? ⟨(ad195.add (((ji49)).toNat * 4)).block, (ad195.add (((ji49)).toNat * 4)).off + 2, none⟩ = some (.int .i64 ((rd_T60 l0_1 (ji49)).f2)) ∧ w'.cell? ⟨(ad195.add (((ji49)).toNat * 4)).block, (ad195.add (((ji49)).toNat * 4)).off + 3, none⟩ = some (.int .i64 ((rd_T60 l0_1 (ji49)).f3)) ∧ w'.cell? (ad195.add (((ji49)).toNat * 4)) = some (.int .i64 ((rd_T60 l0_1 (ji49)).f0)) ∧ w'.cell? ⟨(ad195.add (((ji49)).toNat * 4)).block, (ad195.add (((ji49)).toNat * 4)).off + 1, none⟩ = some (.int .i64 ((rd_T60 l0_1 (ji49)).f1)) ∧ w'.cell? ⟨(ad195.add (((ji49)).toNat * 4)).block, (ad195.add (((ji49)).toNat * 4)).off + 2, none⟩ = some (.int .i64 ((rd_T60 l0_1 (ji49)).f2)) ∧ w'.cell? ⟨(ad195.add (((ji49)).toNat * 4)).block, (ad195.add (((ji49)).toNat * 4)).off + 3, none⟩ = some (.int .i64 ((rd_T60 l0_1 (ji49)).f3)) ∧ w'.cell? (ad195.add (((ji49)).toNat * 4)) = some (.int .i64 ((rd_T60 l0_1 (ji49)).f0)) ∧ w'.cell? ⟨(ad195.add (((ji49)).toNat * 4)).block, (ad195.add (((ji49)).toNat * 4)).off + 1, none⟩ = some (.int .i64 ((rd_T60 l0_1 (ji49)).f1)) ∧ w'.cell? ⟨(ad195.add (((ji49)).toNat * 4)).block, (ad195.add (((ji49)).toNat * 4)).off + 2, none⟩ = some (.int .i64 ((rd_T60 l0_1 (ji49)).f2)) ∧ w'.cell? ⟨(ad195.add (((ji49)).toNat * 4)).block, (ad195.add (((ji49)).toNat * 4)).off + 3, none⟩ = some (.int .i64 ((rd_T60 l0_1 (ji49)).f3))) (ds := []) #[false, false, false, false, false, false, false, false, false, false, false, false, false, false, false, false, false, false, false, false, false, false, false, false, false, false, false, false, false, false, false, false, false, false, false, false, false, false] (by kernel_rfl) rfl rfl ⟨(blk_cell BK196.out 0).trans rfl, (blk_cell BK196.out 1).trans rfl, (blk_cell BK196.out 2).trans rfl, (blk_cell BK196.out 3).trans rfl, (blk_cell BK181.out 0).trans rfl, (blk_cell BK181.out 1).trans rfl, (blk_cell BK181.out 2).trans rfl, (blk_cell BK181.out 3).trans rfl, ((HB.out.cell (World.block_lt_of_cell? w _ hw197_0)).trans hw197_0), ((HB.out.cell (World.block_lt_of_cell? w _ hw197_1)).trans hw197_1), ((HB.out.cell (World.block_lt_of_cell? w _ hw197_2)).trans hw197_2), ((HB.out.cell (World.block_lt_of_cell? w _ hw197_3)).trans hw197_3), ((HB.out.cell (World.block_lt_of_cell? w _ hw198_0)).trans hw198_0), ((HB.out.cell (World.block_lt_of_cell? w _ hw198_1)).trans hw198_1), ((HB.out.cell (World.block_lt_of_cell? w _ hw198_2)).trans hw198_2), ((HB.out.cell (World.block_lt_of_cell? w _ hw198_3)).trans hw198_3), ((HB.out.cell (World.block_lt_of_cell? w _ hw199_0)).trans hw199_0), ((HB.out.cell (World.block_lt_of_cell? w _ hw199_1)).trans hw199_1), ((HB.out.cell (World.block_lt_of_cell? w _ hw199_2)).trans hw199_2), ((HB.out.cell (World.block_lt_of_cell? w _ hw199_3)).trans hw199_3)⟩ (fun hHeld => ?_); refine with_tabW sequence_CheckK.tab20 sequence_CheckK.bits20 (fun HT_ HW_ => ?_)
        generalize wc.drew = w56 at HO_8 HO_9 BK181 BK196 HB hx197_0 hx197_1 hx197_2 hx197_3 hx198_0 hx198_1 hx198_2 hx198_3 hx199_0 hx199_1 hx199_2 hx199_3 hHeld ⊢
        refine pure_ (i := 0) (N := some 78) (v := ?_) (a' := ?_) zc12_ rfl rfl (any_of HT_.out (by kernel_rfl)) (fun _ _ _ h => h) (Or.inl ⟨by rfl, ?_⟩) ?_ ?_; rotate_left; (·(intro w'; go_simp; with_reducible rfl)); rotate_left; (·(simp only [q1,q2,q3,q4,q5,q6,q7]; rfl))
        refine pure_ (i := 1) (N := some 79) (v := ?_) (a' := ?_) zc13_ rfl rfl (any_of HT_.out (by kernel_rfl)) (fun _ _ _ h => h) (Or.inl ⟨by rfl, ?_⟩) ?_ ?_; rotate_left; (·(intro w'; go_simp; with_reducible rfl)); rotate_left; (·(simp only [q1,q2,q3,q4,q5,q6,q7]; rfl))
        refine pure_ (i := 2) (N := some 80) (v := ?_) (a' := ?_) zc14_ rfl rfl (any_of HT_.out (by kernel_rfl)) (fun _ _ _ h => h) (Or.inl ⟨by rfl, ?_⟩) ?_ ?_; rotate_left; (·(intro w'; go_simp; with_reducible rfl)); rotate_left; (·(simp only [q1,q2,q3,q4,q5,q6,q7]; rfl))
        refine pure_ (i := 3) (N := some 81) (v := ?_) (a' := ?_) zc15_ rfl rfl (any_of HT_.out (by kernel_rfl)) (fun _ _ _ h => h) (Or.inl ⟨by rfl, ?_⟩) ?_ ?_; rotate_left; (·(intro w'; go_simp; with_reducible rfl)); rotate_left; (·(simp only [q1,q2,q3,q4,q5,q6,q7]; rfl))
        refine pure_ (i := 5) (N := some 83) (v := ?_) (a' := ?_) zc16_ rfl rfl (any_of HT_.out (by kernel_rfl)) (fun _ _ _ h => h) (Or.inl ⟨by rfl, ?_⟩) ?_ ?_; rotate_left; (·(intro w'; go_simp; with_reducible rfl)); rotate_left; (·(simp only [q1,q2,q3,q4,q5,q6,q7]; rfl))
        refine pure_ (i := 7) (N := some 85) (v := ?_) (a' := ?_) zc17_ rfl rfl (any_of HT_.out (by kernel_rfl)) (fun _ _ _ h => h) (Or.inl ⟨by rfl, ?_⟩) ?_ ?_; rotate_left; (·(intro w'; go_simp; with_reducible rfl)); rotate_left; (·(simp only [q1,q2,q3,q4,q5,q6,q7]; rfl))
        refine pure_ (i := 8) (N := some 86) (v := ?_) (a' := ?_) zc18_ rfl rfl (any_of HT_.out (by kernel_rfl)) (fun _ _ _ h => h) (Or.inl ⟨by rfl, ?_⟩) ?_ ?_; rotate_left; (·(intro w'; go_simp; with_reducible rfl)); rotate_left; (·(simp only [q1,q2,q3,q4,q5,q6,q7]; rfl))
        refine take_ (i := 4) (N := some 82) (v := ?_) (a' := ?_) zc19_ rfl rfl (take_ofW HT_.out HW_.out (by kernel_rfl)) (fun _ _ _ h => h) (Or.inl ⟨by rfl, ?_⟩) hHeld ?_ ?_; rotate_left; (·(rintro w' ⟨s0, s1, s2, s3, s4, s5, s6, s7, s8, s9, s10, s11, s12, s13, s14, s15, s16, s17, s18, s19⟩; go_simp; with_reducible rfl)); rotate_left; (·(simp only [q1,q2,q3,q4,q5,q6,q7]; rfl))
        refine take_ (i := 6) (N := some 84) (v := ?_) (a' := ?_) zc20_ rfl rfl (take_ofW HT_.out HW_.out (by kernel_rfl)) (fun _ _ _ h => h) (Or.inl ⟨by rfl, ?_⟩) hHeld ?_ ?_; rotate_left; (·(rintro w' ⟨s0, s1, s2, s3, s4, s5, s6, s7, s8, s9, s10, s11, s12, s13, s14, s15, s16, s17, s18, s19⟩; go_simp; with_reducible rfl)); rotate_left; (·(simp only [q1,q2,q3,q4,q5,q6,q7]; rfl))
        refine pure_ (i := 9) (N := some 87) (v := ?_) (a' := ?_) zc21_ rfl rfl (any_of HT_.out (by kernel_rfl)) (fun _ _ _ h => h) (Or.inl ⟨by rfl, ?_⟩) ?_ ?_; rotate_left; (·(intro w'; go_simp; with_reducible rfl)); rotate_left; (·(simp only [q1,q2,q3,q4,q5,q6,q7]; rfl))
        refine pure_ (i := 10) (N := some 88) (v := ?_) (a' := ?_) zc22_ rfl rfl (any_of HT_.out (by kernel_rfl)) (fun _ _ _ h => h) (Or.inl ⟨by rfl, ?_⟩) ?_ ?_; rotate_left; (·(intro w'; go_simp; with_reducible rfl)); rotate_left; (·(simp only [q1,q2,q3,q4,q5,q6,q7]; rfl))
        refine take_ (i := 11) (N := some 89) (v := ?_) (a' := ?_) zc23_ rfl rfl (take_ofW HT_.out HW_.out (by kernel_rfl)) (fun _ _ _ h => h) (Or.inl ⟨by rfl, ?_⟩) hHeld ?_ ?_; rotate_left; (·(rintro w' ⟨s0, s1, s2, s3, s4, s5, s6, s7, s8, s9, s10, s11, s12, s13, s14, s15, s16, s17, s18, s19⟩; go_simp; with_reducible rfl)); rotate_left; (·(simp only [q1,q2,q3,q4,q5,q6,q7]; rfl))
        refine pure_ (i := 12) (N := some 90) (v := ?_) (a' := ?_) zc24_ rfl rfl (any_of HT_.out (by kernel_rfl)) (fun _ _ _ h => h) (Or.inl ⟨by rfl, ?_⟩) ?_ ?_; rotate_left; (·(intro w'; go_simp; with_reducible rfl)); rotate_left; (·(simp only [q1,q2,q3,q4,q5,q6,q7]; rfl))
        refine pure_ (i := 13) (N := some 91) (v := ?_) (a' := ?_) zc25_ rfl rfl (any_of HT_.out (by kernel_rfl)) (fun _ _ _ h => h) (Or.inl ⟨by rfl, ?_⟩) ?_ ?_; rotate_left; (·(intro w'; go_simp; with_reducible rfl)); rotate_left; (·(simp only [q1,q2,q3,q4,q5,q6,q7]; rfl))
        refine pure_ (i := 14) (N := some 92) (v := ?_) (a' := ?_) zc26_ rfl rfl (any_of HT_.out (by kernel_rfl)) (fun _ _ _ h => h) (Or.inl ⟨by rfl, ?_⟩) ?_ ?_; rotate_left; (·(intro w'; go_simp; with_reducible rfl)); rotate_left; (·(simp only [q1,q2,q3,q4,q5,q6,q7]; rfl))
        refine pure_ (i := 16) (N := some 94) (v := ?_) (a' := ?_) zc50_ rfl rfl (any_of HT_.out (by kernel_rfl)) (fun _ _ _ h => h) (Or.inl ⟨by rfl, ?_⟩) ?_ ?_; rotate_left; (·(intro w'; go_simp; with_reducible rfl)); rotate_left; (·(simp only [q1,q2,q3,q4,q5,q6,q7]; rfl))
        refine pure_ (i := 18) (N := some 96) (v := ?_) (a' := ?_) zc51_ rfl rfl (any_of HT_.out (by kernel_rfl)) (fun _ _ _ h => h) (Or.inl ⟨by rfl, ?_⟩) ?_ ?_; rotate_left; (·(intro w'; go_simp; with_reducible rfl)); rotate_left; (·(simp only [q1,q2,q3,q4,q5,q6,q7]; rfl))
        refine pure_ (i := 19) (N := some 97) (v := ?_) (a' := ?_) zc52_ rfl rfl (any_of HT_.out (by kernel_rfl)) (fun _ _ _ h => h) (Or.inl ⟨by rfl, ?_⟩) ?_ ?_; rotate_left; (·(intro w'; go_simp; with_reducible rfl)); rotate_left; (·(simp only [q1,q2,q3,q4,q5,q6,q7]; rfl))
        refine take_ (i := 15) (N := some 93) (v := ?_) (a' := ?_) zc53_ rfl rfl (take_ofW HT_.out HW_.out (by kernel_rfl)) (fun _ _ _ h => h) (Or.inl ⟨by rfl, ?_⟩) hHeld ?_ ?_; rotate_left; (·(rintro w' ⟨s0, s1, s2, s3, s4, s5, s6, s7, s8, s9, s10, s11, s12, s13, s14, s15, s16, s17, s18, s19⟩; go_simp; with_reducible rfl)); rotate_left; (·(simp only [q1,q2,q3,q4,q5,q6,q7]; rfl))
        refine take_ (i := 17) (N := some 95) (v := ?_) (a' := ?_) zc31_ rfl rfl (take_ofW HT_.out HW_.out (by kernel_rfl)) (fun _ _ _ h => h) (Or.inl ⟨by rfl, ?_⟩) hHeld ?_ ?_; rotate_left; (·(rintro w' ⟨s0, s1, s2, s3, s4, s5, s6, s7, s8, s9, s10, s11, s12, s13, s14, s15, s16, s17, s18, s19⟩; go_simp; with_reducible rfl)); rotate_left; (·(simp only [q1,q2,q3,q4,q5,q6,q7]; rfl))
        refine pure_ (i := 20) (N := some 98) (v := ?_) (a' := ?_) zc32_ rfl rfl (any_of HT_.out (by kernel_rfl)) (fun _ _ _ h => h) (Or.inl ⟨by rfl, ?_⟩) ?_ ?_; rotate_left; (·(intro w'; go_simp; with_reducible rfl)); rotate_left; (·(simp only [q1,q2,q3,q4,q5,q6,q7]; rfl))
        refine pure_ (i := 21) (N := some 99) (v := ?_) (a' := ?_) zc33_ rfl rfl (any_of HT_.out (by kernel_rfl)) (fun _ _ _ h => h) (Or.inl ⟨by rfl, ?_⟩) ?_ ?_; rotate_left; (·(intro w'; go_simp; with_reducible rfl)); rotate_left; (·(simp only [q1,q2,q3,q4,q5,q6,q7]; rfl))
        refine take_ (i := 22) (N := some 100) (v := ?_) (a' := ?_) zc34_ rfl rfl (take_ofW HT_.out HW_.out (by kernel_rfl)) (fun _ _ _ h => h) (Or.inl ⟨by rfl, ?_⟩) hHeld ?_ ?_; rotate_left; (·(rintro w' ⟨s0, s1, s2, s3, s4, s5, s6, s7, s8, s9, s10, s11, s12, s13, s14, s15, s16, s17, s18, s19⟩; go_simp; with_reducible rfl)); rotate_left; (·(simp only [q1,q2,q3,q4,q5,q6,q7]; rfl))
        refine pure_ (i := 23) (N := some 101) (v := ?_) (a' := ?_) zc35_ rfl rfl (any_of HT_.out (by kernel_rfl)) (fun _ _ _ h => h) (Or.inl ⟨by rfl, ?_⟩) ?_ ?_; rotate_left; (·(intro w'; go_simp; with_reducible rfl)); rotate_left; (·(simp only [q1,q2,q3,q4,q5,q6,q7]; rfl))
        refine pure_ (i := 24) (N := some 102) (v := ?_) (a' := ?_) zc36_ rfl rfl (any_of HT_.out (by kernel_rfl)) (fun _ _ _ h => h) (Or.inl ⟨by rfl, ?_⟩) ?_ ?_; rotate_left; (·(intro w'; go_simp; with_reducible rfl)); rotate_left; (·(simp only [q1,q2,q3,q4,q5,q6,q7]; rfl))
        refine pure_ (i := 25) (N := some 103) (v := ?_) (a' := ?_) zc37_ rfl rfl (any_of HT_.out (by kernel_rfl)) (fun _ _ _ h => h) (Or.inl ⟨by rfl, ?_⟩) ?_ ?_; rotate_left; (·(intro w'; go_simp; with_reducible rfl)); rotate_left; (·(simp only [q1,q2,q3,q4,q5,q6,q7]; rfl))
        refine pure_ (i := 27) (N := some 105) (v := ?_) (a' := ?_) zc54_ rfl rfl (any_of HT_.out (by kernel_rfl)) (fun _ _ _ h => h) (Or.inl ⟨by rfl, ?_⟩) ?_ ?_; rotate_left; (·(intro w'; go_simp; with_reducible rfl)); rotate_left; (·(simp only [q1,q2,q3,q4,q5,q6,q7]; rfl))
        refine pure_ (i := 29) (N := some 107) (v := ?_) (a' := ?_) zc55_ rfl rfl (any_of HT_.out (by kernel_rfl)) (fun _ _ _ h => h) (Or.inl ⟨by rfl, ?_⟩) ?_ ?_; rotate_left; (·(intro w'; go_simp; with_reducible rfl)); rotate_left; (·(simp only [q1,q2,q3,q4,q5,q6,q7]; rfl))
        refine pure_ (i := 30) (N := some 108) (v := ?_) (a' := ?_) zc56_ rfl rfl (any_of HT_.out (by kernel_rfl)) (fun _ _ _ h => h) (Or.inl ⟨by rfl, ?_⟩) ?_ ?_; rotate_left; (·(intro w'; go_simp; with_reducible rfl)); rotate_left; (·(simp only [q1,q2,q3,q4,q5,q6,q7]; rfl))
        refine take_ (i := 26) (N := some 104) (v := ?_) (a' := ?_) zc57_ rfl rfl (take_ofW HT_.out HW_.out (by kernel_rfl)) (fun _ _ _ h => h) (Or.inl ⟨by rfl, ?_⟩) hHeld ?_ ?_; rotate_left; (·(rintro w' ⟨s0, s1, s2, s3, s4, s5, s6, s7, s8, s9, s10, s11, s12, s13, s14, s15, s16, s17, s18, s19⟩; go_simp; with_reducible rfl)); rotate_left; (·(simp only [q1,q2,q3,q4,q5,q6,q7]; rfl))
        refine take_ (i := 28) (N := some 106) (v := ?_) (a' := ?_) zc42_ rfl rfl (take_ofW HT_.out HW_.out (by kernel_rfl)) (fun _ _ _ h => h) (Or.inl ⟨by rfl, ?_⟩) hHeld ?_ ?_; rotate_left; (·(rintro w' ⟨s0, s1, s2, s3, s4, s5, s6, s7, s8, s9, s10, s11, s12, s13, s14, s15, s16, s17, s18, s19⟩; go_simp; with_reducible rfl)); rotate_left; (·(simp only [q1,q2,q3,q4,q5,q6,q7]; rfl))
        refine pure_ (i := 31) (N := some 109) (v := ?_) (a' := ?_) zc43_ rfl rfl (any_of HT_.out (by kernel_rfl)) (fun _ _ _ h => h) (Or.inl ⟨by rfl, ?_⟩) ?_ ?_; rotate_left; (·(intro w'; go_simp; with_reducible rfl)); rotate_left; (·(simp only [q1,q2,q3,q4,q5,q6,q7]; rfl))
        refine pure_ (i := 32) (N := some 110) (v := ?_) (a' := ?_) zc44_ rfl rfl (any_of HT_.out (by kernel_rfl)) (fun _ _ _ h => h) (Or.inl ⟨by rfl, ?_⟩) ?_ ?_; rotate_left; (·(intro w'; go_simp; with_reducible rfl)); rotate_left; (·(simp only [q1,q2,q3,q4,q5,q6,q7]; rfl))
        refine take_ (i := 33) (N := some 111) (v := ?_) (a' := ?_) zc45_ rfl rfl (take_ofW HT_.out HW_.out (by kernel_rfl)) (fun _ _ _ h => h) (Or.inl ⟨by rfl, ?_⟩) hHeld ?_ ?_; rotate_left; (·(rintro w' ⟨s0, s1, s2, s3, s4, s5, s6, s7, s8, s9, s10, s11, s12, s13, s14, s15, s16, s17, s18, s19⟩; go_simp; with_reducible rfl)); rotate_left; (·(simp only [q1,q2,q3,q4,q5,q6,q7]; rfl))
        refine pure_ (i := 34) (N := some 112) (v := ?_) (a' := ?_) zc46_ rfl rfl (any_of HT_.out (by kernel_rfl)) (fun _ _ _ h => h) (Or.inl ⟨by rfl, ?_⟩) ?_ ?_; rotate_left; (·(intro w'; go_simp; with_reducible rfl)); rotate_left; (·(simp only [q1,q2,q3,q4,q5,q6,q7]; rfl))
        refine pure_ (i := 35) (N := some 113) (v := ?_) (a' := ?_) zc47_ rfl rfl (any_of HT_.out (by kernel_rfl)) (fun _ _ _ h => h) (Or.inl ⟨by rfl, ?_⟩) ?_ ?_; rotate_left; (·(intro w'; go_simp; with_reducible rfl)); rotate_left; (·(simp only [q1,q2,q3,q4,q5,q6,q7]; rfl))
        refine pure_ (i := 36) (N := some 114) (v := ?_) (a' := ?_) zc48_ rfl rfl (any_of HT_.out (by kernel_rfl)) (fun _ _ _ h => h) (Or.inl ⟨by rfl, ?_⟩) ?_ ?_; rotate_left; (·(intro w'; go_simp; with_reducible rfl)); rotate_left; (·(simp only [q1,q2,q3,q4,q5,q6,q7]; rfl))
        refine pure_ (i := 37) (N := some 115) (v := ?_) (a' := ?_) zc49_ rfl rfl (any_of HT_.out (by kernel_rfl)) (fun _ _ _ h => h) (Or.inl ⟨by rfl, ?_⟩) ?_ ?_; rotate_left; (·(intro w'; go_simp; with_reducible rfl)); rotate_left; (·(simp only [q1,q2,q3,q4,q5,q6,q7]; rfl))
        refine done_ (done_of HT_.out (by kernel_rfl)) ?_
        try go_wp2
        go_ret2
        exact ⟨by first | rfl | (simp [errW_none, errW_some] <;> rfl) | (simp only [← hji49]; first | rfl | (simp [errW_none, errW_some] <;> rfl)) | (simp [*, errW_none, errW_some] <;> rfl), by repeat (first | (with_reducible first | exact HB.out | apply below_alloc | apply pw_below_drewN | apply below_drew1 | refine below_set ?_ GE181.out | refine below_set ?_ GE196.out) | exact HB.out)⟩
       rw [if_neg c55] at H
       have c55b0 : decide (((rd_T60 l0_1 x55_2).f2) ≤ ((rd_T60 l0_1 (ji49)).f2)) = false := decide_eq_false c55
       clear c55
       by_cases c57 : 0 ≤ ((rd_T60 l0_1 x55_2).f2)
       rotate_left
       ·rw [if_neg c57] at H
        exact absurd H (by simp)
       rw [if_pos c57] at H
       have c57b0 : decide (0 ≤ ((rd_T60 l0_1 x55_2).f2)) = true := decide_eq_true c57
       clear c57
       by_cases c58 : ((rd_T60 l0_1 x55_2).f2) < (x8_2.length : Int)
       rotate_left
       ·rw [if_neg c58] at H
        exact absurd H (by simp)
       rw [if_pos c58] at H
       have c58b0 : decide (((rd_T60 l0_1 x55_2).f2) < (x8_2.length : Int)) = true := decide_eq_true c58
       clear c58
       obtain ⟨y201, hy201⟩ : ∃ y_ : List Int, y_ = (x8_2.set (((rd_T60 l0_1 x55_2).f2) : Int).toNat (wrap64 ((rd x8_2 ((rd_T60 l0_1 x55_2).f2)) + ((rd_T60 l0_1 x55_2).f1)))) := ⟨_, rfl⟩
       replace H : (if 0 ≤ ((rd_T60 l0_1 x55_2).f3) then (if ((rd_T60 l0_1 x55_2).f3) < (x9_2.length : Int) then (sequence_CheckK.l1 kj34 y201 (x9_2.set (((rd_T60 l0_1 x55_2).f3) : Int).toNat (wrap64 ((rd x9_2 ((rd_T60 l0_1 x55_2).f3)) + ((rd_T60 l0_1 x55_2).f1)))) l0_1 (l0_1.length : Int) (wrap64 (x55_2 + 1)) l0_0 l0_1 l0_2 l0_3) else (none)) else (none)) = some (r1, r2) := by first | (rw [hy201]; with_reducible exact H) | (have H2_ := (Option.bind_some _ _).symm.trans H; rw [hy201]; with_reducible exact H2_) | (have H2_ := (Option.bind_some _ _).symm.trans H; with_reducible exact H2_) | with_reducible exact H | (rw [hy201]; exact H) | exact H
       have Ny201 := Aside0.mk hy201
       clear hy201
       by_cases c60 : 0 ≤ ((rd_T60 l0_1 x55_2).f3)
       rotate_left
       ·rw [if_neg c60] at H
        exact absurd H (by simp)
       rw [if_pos c60] at H
       have c60b0 : decide (0 ≤ ((rd_T60 l0_1 x55_2).f3)) = true := decide_eq_true c60
       clear c60
       by_cases c61 : ((rd_T60 l0_1 x55_2).f3) < (x9_2.length : Int)
       rotate_left
       ·rw [if_neg c61] at H
        exact absurd H (by simp)
       rw [if_pos c61] at H
       have c61b0 : decide (((rd_T60 l0_1 x55_2).f3) < (x9_2.length : Int)) = true := decide_eq_true c61
       clear c61
       obtain ⟨y203, hy203⟩ : ∃ y_ : List Int, y_ = (x9_2.set (((rd_T60 l0_1 x55_2).f3) : Int).toNat (wrap64 ((rd x9_2 ((rd_T60 l0_1 x55_2).f3)) + ((rd_T60 l0_1 x55_2).f1)))) := ⟨_, rfl⟩
       replace H : (sequence_CheckK.l1 kj34 y201 y203 l0_1 (l0_1.length : Int) (wrap64 (x55_2 + 1)) l0_0 l0_1 l0_2 l0_3) = some (r1, r2) := by first | (rw [hy203]; with_reducible exact H) | (have H2_ := (Option.bind_some _ _).symm.trans H; rw [hy203]; with_reducible exact H2_) | (have H2_ := (Option.bind_some _ _).symm.trans H; with_reducible exact H2_) | with_reducible exact H | (rw [hy203]; exact H) | exact H
       have Ny203 := Aside0.mk hy203
       clear hy203
       have H' := Aside0.mk H
       clear H
       try go_wp2
       have n0_ := Aside0.mk (Kd.R_drew HO_8.out)
       have n1_ := Aside0.mk (Kd.R_drew HO_9.out)
       have n2_ := Aside0.mk (blk_drew BK181.out)
       have n3_ := Aside0.mk (blk_drew BK196.out)
       have n4_ := Aside0.mk (below_drew1 HB.out)
       clear HO_8; clear HO_9; clear BK181; clear BK196; clear HB; have HO_8 := n0_; have HO_9 := n1_; have BK181 := n2_; have BK196 := n3_; have HB := n4_; clear n0_ n1_ n2_ n3_ n4_
       have p197 : 0 ≤ ((ji49) : Int) := of_decide_eq_true (by first | (with_reducible assumption) | assumption)
       have q197 : (ji49) < (l0_1.length : Int) := of_decide_eq_true (by first | (with_reducible assumption) | assumption)
       obtain ⟨ad197, e197, hx197_0, hx197_1, hx197_2, hx197_3⟩ := at_T60 HR0_1.out (ji49) p197 q197
       have hw197_3 := hx197_3; have hw197_2 := hx197_2; have hw197_1 := hx197_1; have hw197_0 := hx197_0
       obtain rfl : ad195 = ad197 := (by injection e197)
       replace hx197_0 := (HB.out.cell (World.block_lt_of_cell? w _ hx197_0)).trans hx197_0
       replace hx197_1 := (HB.out.cell (World.block_lt_of_cell? w _ hx197_1)).trans hx197_1
       replace hx197_2 := (HB.out.cell (World.block_lt_of_cell? w _ hx197_2)).trans hx197_2
       replace hx197_3 := (HB.out.cell (World.block_lt_of_cell? w _ hx197_3)).trans hx197_3
       replace p197 := eq_true p197
       replace q197 := eq_true q197
       have p198 : 0 ≤ ((ji49) : Int) := of_decide_eq_true (by first | (with_reducible assumption) | assumption)
       have q198 : (ji49) < (l0_1.length : Int) := of_decide_eq_true (by first | (with_reducible assumption) | assumption)
       obtain ⟨ad198, e198, hx198_0, hx198_1, hx198_2, hx198_3⟩ := at_T60 HR0_1.out (ji49) p198 q198
       have hw198_3 := hx198_3; have hw198_2 := hx198_2; have hw198_1 := hx198_1; have hw198_0 := hx198_0
       obtain rfl : ad195 = ad198 := (by injection e198)
       replace hx198_0 := (HB.out.cell (World.block_lt_of_cell? w _ hx198_0)).trans hx198_0
       replace hx198_1 := (HB.out.cell (World.block_lt_of_cell? w _ hx198_1)).trans hx198_1
       replace hx198_2 := (HB.out.cell (World.block_lt_of_cell? w _ hx198_2)).trans hx198_2
       replace hx198_3 := (HB.out.cell (World.block_lt_of_cell? w _ hx198_3)).trans hx198_3
       replace p198 := eq_true p198
       replace q198 := eq_true q198
       have p199 : 0 ≤ ((ji49) : Int) := of_decide_eq_true (by first | (with_reducible assumption) | assumption)
       have q199 : (ji49) < (l0_1.length : Int) := of_decide_eq_true (by first | (with_reducible assumption) | assumption)
       obtain ⟨ad199, e199, hx199_0, hx199_1, hx199_2, hx199_3⟩ := at_T60 HR0_1.out (ji49) p199 q199
       have hw199_3 := hx199_3; have hw199_2 := hx199_2; have hw199_1 := hx199_1; have hw199_0 := hx199_0
       obtain rfl : ad195 = ad199 := (by injection e199)
       replace hx199_0 := (HB.out.cell (World.block_lt_of_cell? w _ hx199_0)).trans hx199_0
       replace hx199_1 := (HB.out.cell (World.block_lt_of_cell? w _ hx199_1)).trans hx199_1
       replace hx199_2 := (HB.out.cell (World.block_lt_of_cell? w _ hx199_2)).trans hx199_2
       replace hx199_3 := (HB.out.cell (World.block_lt_of_cell? w _ hx199_3)).trans hx199_3
       replace p199 := eq_true p199
       replace q199 := eq_true q199
       refine start_ (n := 38) (S := fun w' => w'.cell? ⟨gb196, 0, none⟩ = some (.int .i64 ((rd_T60 l0_1 x55_2).f0)) ∧ w'.cell? ⟨gb196, 1, none⟩ = some (.int .i64 ((rd_T60 l0_1 x55_2).f1)) ∧ w'.cell? ⟨gb196, 2, none⟩ = some (.int .i64 ((rd_T60 l0_1 x55_2).f2)) ∧ w'.cell? ⟨gb196, 3, none⟩ = some (.int .i64 ((rd_T60 l0_1 x55_2).f3)) ∧ w'.cell? ⟨gb181, 0, none⟩ = some (.slice A0_0 l0_0.length c0_0) ∧ w'.cell? ⟨gb181, 1, none⟩ = some (.slice (some ad195) l0_1.length c0_1) ∧ w'.cell? ⟨gb181, 2, none⟩ = some (.slice A0_2 l0_2.length c0_2) ∧ w'.cell? ⟨gb181, 3, none⟩ = some (.slice A0_3 l0_3.length c0_3) ∧ w'.cell? (ad195.add (((ji49)).toNat * 4)) = some (.int .i64 ((rd_T60 l0_1 (ji49)).f0)) ∧ w'.cell? ⟨(ad195.add (((ji49)).toNat * 4)).block, (ad195.add (((ji49)).toNat * 4)).off + 1, none⟩ = some (.int .i64 ((rd_T60 l0_1 (ji49)).f1)) ∧ w'.cell? ⟨(ad195.add (((ji49)).toNat * 4)).block, (ad195.add (((ji49)).toNat * 4)).off + 2, none⟩ = some (.int .i64 ((rd_T60 l0_1 (ji49)).f2)) ∧ w'.cell? ⟨(ad195.add (((ji49)).toNat * 4)).block, (ad195.add (((ji49)).toNat * 4)).off + 3, none⟩ = some (.int .i64 ((rd_T60 l0_1 (ji49)).f3)) ∧ w'.cell? (ad195.add (((ji49)).toNat * 4)) = some (.int .i64 ((rd_T60 l0_1 (ji49)).f0)) ∧ w'.cell? ⟨(ad195.add (((ji49)).toNat * 4)).block, (ad195.add (((ji49)).toNat * 4)).off + 1, none⟩ = some (.int .i64 ((rd_T60 l0_1 (ji49)).f1)) ∧ w'.cell? ⟨(ad195.add (((ji49)).toNat * 4)).block, (ad195.add (((ji49)).toNat * 4)).off + 2, none⟩ = some (.int .i64 ((rd_T60 l0_1 (ji49)).f2)) ∧ w'.cell? ⟨(ad195.add (((ji49)).toNat * 4)).block, (ad195.add (((ji49)).toNat * 4)).off + 3, none⟩ = some (.int .i64 ((rd_T60 l0_1 (ji49)).f3)) ∧ w'.cell? (ad195.add (((ji49)).toNat * 4)) = some (.int .i64 ((rd_T60 l0_1 (ji49)).f0)) ∧ w'.cell? ⟨(ad195.add (((ji49)).toNat * 4)).block, (ad195.add (((ji49)).toNat * 4)).off + 1, none⟩ = some (.int .i64 ((rd_T60 l0_1 (ji49)).f1)) ∧ w'.cell? ⟨(ad195.add (((ji49)).toNat * 4)).block, (ad195.add (((ji49)).toNat * 4)).off + 2, none⟩ = some (.int .i64 ((rd_T60 l0_1 (ji49)).f2)) ∧ w'.cell? ⟨(ad195.add (((ji49)).toNat * 4)).block, (ad195.add (((ji49)).toNat * 4)).off + 3, none⟩ = some (.int .i64 ((rd_T60 l0_1 (ji49)).f3))) (ds := []) #[false, false, false, false, false, false, false, false, false, false, false, false, false, false, false, false, false, false, false, false, false, false, false, false, false, false, false, false, false, false, false, false, false, false, false, false, false, false] (by kernel_rfl) rfl rfl ⟨(blk_cell BK196.out 0).trans rfl, (blk_cell BK196.out 1).trans rfl, (blk_cell BK196.out 2).trans rfl, (blk_cell BK196.out 3).trans rfl, (blk_cell BK181.out 0).trans rfl, (blk_cell BK181.out 1).trans rfl, (blk_cell BK181.out 2).trans rfl, (blk_cell BK181.out 3).trans rfl, ((HB.out.cell (World.block_lt_of_cell? w _ hw197_0)).trans hw197_0), ((HB.out.cell (World.block_lt_of_cell? w _ hw197_1)).trans hw197_1), ((HB.out.cell (World.block_lt_of_cell? w _ hw197_2)).trans hw197_2), ((HB.out.cell (World.block_lt_of_cell? w _ hw197_3)).trans hw197_3), ((HB.out.cell (World.block_lt_of_cell? w _ hw198_0)).trans hw198_0), ((HB.out.cell (World.block_lt_of_cell? w _ hw198_1)).trans hw198_1), ((HB.out.cell (World.block_lt_of_cell? w _ hw198_2)).trans hw198_2), ((HB.out.cell (World.block_lt_of_cell? w _ hw198_3)).trans hw198_3), ((HB.out.cell (World.block_lt_of_cell? w _ hw199_0)).trans hw199_0), ((HB.out.cell (World.block_lt_of_cell? w _ hw199_1)).trans hw199_1), ((HB.out.cell (World.block_lt_of_cell? w _ hw199_2)).trans hw199_2), ((HB.out.cell (World.block_lt_of_cell? w _ hw199_3)).trans hw199_3)⟩ (fun hHeld => ?_); refine with_tabW sequence_CheckK.tab20 sequence_CheckK.bits20 (fun HT_ HW_ => ?_)
       generalize wc.drew = w63 at HO_8 HO_9 BK181 BK196 HB hx197_0 hx197_1 hx197_2 hx197_3 hx198_0 hx198_1 hx198_2 hx198_3 hx199_0 hx199_1 hx199_2 hx199_3 hHeld ⊢
       refine pure_ (i := 0) (N := some 78) (v := ?_) (a' := ?_) zc12_ rfl rfl (any_of HT_.out (by kernel_rfl)) (fun _ _ _ h => h) (Or.inl ⟨by rfl, ?_⟩) ?_ ?_; rotate_left; (·(intro w'; go_simp; with_reducible rfl)); rotate_left; (·(simp only [q1,q2,q3,q4,q5,q6,q7]; rfl))
       refine pure_ (i := 1) (N := some 79) (v := ?_) (a' := ?_) zc13_ rfl rfl (any_of HT_.out (by kernel_rfl)) (fun _ _ _ h => h) (Or.inl ⟨by rfl, ?_⟩) ?_ ?_; rotate_left; (·(intro w'; go_simp; with_reducible rfl)); rotate_left; (·(simp only [q1,q2,q3,q4,q5,q6,q7]; rfl))
       refine pure_ (i := 2) (N := some 80) (v := ?_) (a' := ?_) zc14_ rfl rfl (any_of HT_.out (by kernel_rfl)) (fun _ _ _ h => h) (Or.inl ⟨by rfl, ?_⟩) ?_ ?_; rotate_left; (·(intro w'; go_simp; with_reducible rfl)); rotate_left; (·(simp only [q1,q2,q3,q4,q5,q6,q7]; rfl))
       refine pure_ (i := 3) (N := some 81) (v := ?_) (a' := ?_) zc15_ rfl rfl (any_of HT_.out (by kernel_rfl)) (fun _ _ _ h => h) (Or.inl ⟨by rfl, ?_⟩) ?_ ?_; rotate_left; (·(intro w'; go_simp; with_reducible rfl)); rotate_left; (·(simp only [q1,q2,q3,q4,q5,q6,q7]; rfl))
       refine pure_ (i := 5) (N := some 83) (v := ?_) (a' := ?_) zc16_ rfl rfl (any_of HT_.out (by kernel_rfl)) (fun _ _ _ h => h) (Or.inl ⟨by rfl, ?_⟩) ?_ ?_; rotate_left; (·(intro w'; go_simp; with_reducible rfl)); rotate_left; (·(simp only [q1,q2,q3,q4,q5,q6,q7]; rfl))
       refine pure_ (i := 7) (N := some 85) (v := ?_) (a' := ?_) zc17_ rfl rfl (any_of HT_.out (by kernel_rfl)) (fun _ _ _ h => h) (Or.inl ⟨by rfl, ?_⟩) ?_ ?_; rotate_left; (·(intro w'; go_simp; with_reducible rfl)); rotate_left; (·(simp only [q1,q2,q3,q4,q5,q6,q7]; rfl))
       refine pure_ (i := 8) (N := some 86) (v := ?_) (a' := ?_) zc18_ rfl rfl (any_of HT_.out (by kernel_rfl)) (fun _ _ _ h => h) (Or.inl ⟨by rfl, ?_⟩) ?_ ?_; rotate_left; (·(intro w'; go_simp; with_reducible rfl)); rotate_left; (·(simp only [q1,q2,q3,q4,q5,q6,q7]; rfl))
       refine take_ (i := 4) (N := some 82) (v := ?_) (a' := ?_) zc19_ rfl rfl (take_ofW HT_.out HW_.out (by kernel_rfl)) (fun _ _ _ h => h) (Or.inl ⟨by rfl, ?_⟩) hHeld ?_ ?_; rotate_left; (·(rintro w' ⟨s0, s1, s2, s3, s4, s5, s6, s7, s8, s9, s10, s11, s12, s13, s14, s15, s16, s17, s18, s19⟩; go_simp; with_reducible rfl)); rotate_left; (·(simp only [q1,q2,q3,q4,q5,q6,q7]; rfl))
       refine take_ (i := 6) (N := some 84) (v := ?_) (a' := ?_) zc20_ rfl rfl (take_ofW HT_.out HW_.out (by kernel_rfl)) (fun _ _ _ h => h) (Or.inl ⟨by rfl, ?_⟩) hHeld ?_ ?_; rotate_left; (·(rintro w' ⟨s0, s1, s2, s3, s4, s5, s6, s7, s8, s9, s10, s11, s12, s13, s14, s15, s16, s17, s18, s19⟩; go_simp; with_reducible rfl)); rotate_left; (·(simp only [q1,q2,q3,q4,q5,q6,q7]; rfl))
       refine pure_ (i := 9) (N := some 87) (v := ?_) (a' := ?_) zc21_ rfl rfl (any_of HT_.out (by kernel_rfl)) (fun _ _ _ h => h) (Or.inl ⟨by rfl, ?_⟩) ?_ ?_; rotate_left; (·(intro w'; go_simp; with_reducible rfl)); rotate_left; (·(simp only [q1,q2,q3,q4,q5,q6,q7]; rfl))
       refine pure_ (i := 10) (N := some 88) (v := ?_) (a' := ?_) zc22_ rfl rfl (any_of HT_.out (by kernel_rfl)) (fun _ _ _ h => h) (Or.inl ⟨by rfl, ?_⟩) ?_ ?_; rotate_left; (·(intro w'; go_simp; with_reducible rfl)); rotate_left; (·(simp only [q1,q2,q3,q4,q5,q6,q7]; rfl))
       refine take_ (i := 11) (N := some 89) (v := ?_) (a' := ?_) zc23_ rfl rfl (take_ofW HT_.out HW_.out (by kernel_rfl)) (fun _ _ _ h => h) (Or.inl ⟨by rfl, ?_⟩) hHeld ?_ ?_; rotate_left; (·(rintro w' ⟨s0, s1, s2, s3, s4, s5, s6, s7, s8, s9, s10, s11, s12, s13, s14, s15, s16, s17, s18, s19⟩; go_simp; with_reducible rfl)); rotate_left; (·(simp only [q1,q2,q3,q4,q5,q6,q7]; rfl))
       refine pure_ (i := 12) (N := some 90) (v := ?_) (a' := ?_) zc24_ rfl rfl (any_of HT_.out (by kernel_rfl)) (fun _ _ _ h => h) (Or.inl ⟨by rfl, ?_⟩) ?_ ?_; rotate_left; (·(intro w'; go_simp; with_reducible rfl)); rotate_left; (·(simp only [q1,q2,q3,q4,q5,q6,q7]; rfl))
       refine pure_ (i := 13) (N := some 91) (v := ?_) (a' := ?_) zc25_ rfl rfl (any_of HT_.out (by kernel_rfl)) (fun _ _ _ h => h) (Or.inl ⟨by rfl, ?_⟩) ?_ ?_; rotate_left; (·(intro w'; go_simp; with_reducible rfl)); rotate_left; (·(simp only [q1,q2,q3,q4,q5,q6,q7]; rfl))
       refine pure_ (i := 14) (N := some 92) (v := ?_) (a' := ?_) zc26_ rfl rfl (any_of HT_.out (by kernel_rfl)) (fun _ _ _ h => h) (Or.inl ⟨by rfl, ?_⟩) ?_ ?_; rotate_left; (·(intro w'; go_simp; with_reducible rfl)); rotate_left; (·(simp only [q1,q2,q3,q4,q5,q6,q7]; rfl))
       refine pure_ (i := 16) (N := some 94) (v := ?_) (a' := ?_) zc50_ rfl rfl (any_of HT_.out (by kernel_rfl)) (fun _ _ _ h => h) (Or.inl ⟨by rfl, ?_⟩) ?_ ?_; rotate_left; (·(intro w'; go_simp; with_reducible rfl)); rotate_left; (·(simp only [q1,q2,q3,q4,q5,q6,q7]; rfl))
       refine pure_ (i := 18) (N := some 96) (v := ?_) (a' := ?_) zc51_ rfl rfl (any_of HT_.out (by kernel_rfl)) (fun _ _ _ h => h) (Or.inl ⟨by rfl, ?_⟩) ?_ ?_; rotate_left; (·(intro w'; go_simp; with_reducible rfl)); rotate_left; (·(simp only [q1,q2,q3,q4,q5,q6,q7]; rfl))
       refine pure_ (i := 19) (N := some 97) (v := ?_) (a' := ?_) zc52_ rfl rfl (any_of HT_.out (by kernel_rfl)) (fun _ _ _ h => h) (Or.inl ⟨by rfl, ?_⟩) ?_ ?_; rotate_left; (·(intro w'; go_simp; with_reducible rfl)); rotate_left; (·(simp only [q1,q2,q3,q4,q5,q6,q7]; rfl))
       refine take_ (i := 15) (N := some 93) (v := ?_) (a' := ?_) zc53_ rfl rfl (take_ofW HT_.out HW_.out (by kernel_rfl)) (fun _ _ _ h => h) (Or.inl ⟨by rfl, ?_⟩) hHeld ?_ ?_; rotate_left; (·(rintro w' ⟨s0, s1, s2, s3, s4, s5, s6, s7, s8, s9, s10, s11, s12, s13, s14, s15, s16, s17, s18, s19⟩; go_simp; with_reducible rfl)); rotate_left; (·(simp only [q1,q2,q3,q4,q5,q6,q7]; rfl))
       refine take_ (i := 17) (N := some 95) (v := ?_) (a' := ?_) zc31_ rfl rfl (take_ofW HT_.out HW_.out (by kernel_rfl)) (fun _ _ _ h => h) (Or.inl ⟨by rfl, ?_⟩) hHeld ?_ ?_; rotate_left; (·(rintro w' ⟨s0, s1, s2, s3, s4, s5, s6, s7, s8, s9, s10, s11, s12, s13, s14, s15, s16, s17, s18, s19⟩; go_simp; with_reducible rfl)); rotate_left; (·(simp only [q1,q2,q3,q4,q5,q6,q7]; rfl))
       refine pure_ (i := 20) (N := some 98) (v := ?_) (a' := ?_) zc32_ rfl rfl (any_of HT_.out (by kernel_rfl)) (fun _ _ _ h => h) (Or.inl ⟨by rfl, ?_⟩) ?_ ?_; rotate_left; (·(intro w'; go_simp; with_reducible rfl)); rotate_left; (·(simp only [q1,q2,q3,q4,q5,q6,q7]; rfl))
       refine pure_ (i := 21) (N := some 99) (v := ?_) (a' := ?_) zc33_ rfl rfl (any_of HT_.out (by kernel_rfl)) (fun _ _ _ h => h) (Or.inl ⟨by rfl, ?_⟩) ?_ ?_; rotate_left; (·(intro w'; go_simp; with_reducible rfl)); rotate_left; (·(simp only [q1,q2,q3,q4,q5,q6,q7]; rfl))
       refine take_ (i := 22) (N := some 100) (v := ?_) (a' := ?_) zc34_ rfl rfl (take_ofW HT_.out HW_.out (by kernel_rfl)) (fun _ _ _ h => h) (Or.inl ⟨by rfl, ?_⟩) hHeld ?_ ?_; rotate_left; (·(rintro w' ⟨s0, s1, s2, s3, s4, s5, s6, s7, s8, s9, s10, s11, s12, s13, s14, s15, s16, s17, s18, s19⟩; go_simp; with_reducible rfl)); rotate_left; (·(simp only [q1,q2,q3,q4,q5,q6,q7]; rfl))
       refine pure_ (i := 23) (N := some 101) (v := ?_) (a' := ?_) zc35_ rfl rfl (any_of HT_.out (by kernel_rfl)) (fun _ _ _ h => h) (Or.inl ⟨by rfl, ?_⟩) ?_ ?_; rotate_left; (·(intro w'; go_simp; with_reducible rfl)); rotate_left; (·(simp only [q1,q2,q3,q4,q5,q6,q7]; rfl))
       refine pure_ (i := 24) (N := some 102) (v := ?_) (a' := ?_) zc36_ rfl rfl (any_of HT_.out (by kernel_rfl)) (fun _ _ _ h => h) (Or.inl ⟨by rfl, ?_⟩) ?_ ?_; rotate_left; (·(intro w'; go_simp; with_reducible rfl)); rotate_left; (·(simp only [q1,q2,q3,q4,q5,q6,q7]; rfl))
       refine pure_ (i := 25) (N := some 103) (v := ?_) (a' := ?_) zc37_ rfl rfl (any_of HT_.out (by kernel_rfl)) (fun _ _ _ h => h) (Or.inl ⟨by rfl, ?_⟩) ?_ ?_; rotate_left; (·(intro w'; go_simp; with_reducible rfl)); rotate_left; (·(simp only [q1,q2,q3,q4,q5,q6,q7]; rfl))
       refine pure_ (i := 27) (N := some 105) (v := ?_) (a' := ?_) zc54_ rfl rfl (any_of HT_.out (by kernel_rfl)) (fun _ _ _ h => h) (Or.inl ⟨by rfl, ?_⟩) ?_ ?_; rotate_left; (·(intro w'; go_simp; with_reducible rfl)); rotate_left; (·(simp only [q1,q2,q3,q4,q5,q6,q7]; rfl))
       refine pure_ (i := 29) (N := some 107) (v := ?_) (a' := ?_) zc55_ rfl rfl (any_of HT_.out (by kernel_rfl)) (fun _ _ _ h => h) (Or.inl ⟨by rfl, ?_⟩) ?_ ?_; rotate_left; (·(intro w'; go_simp; with_reducible rfl)); rotate_left; (·(simp only [q1,q2,q3,q4,q5,q6,q7]; rfl))
       refine pure_ (i := 30) (N := some 108) (v := ?_) (a' := ?_) zc56_ rfl rfl (any_of HT_.out (by kernel_rfl)) (fun _ _ _ h => h) (Or.inl ⟨by rfl, ?_⟩) ?_ ?_; rotate_left; (·(intro w'; go_simp; with_reducible rfl)); rotate_left; (·(simp only [q1,q2,q3,q4,q5,q6,q7]; rfl))
       refine take_ (i := 26) (N := some 104) (v := ?_) (a' := ?_) zc57_ rfl rfl (take_ofW HT_.out HW_.out (by kernel_rfl)) (fun _ _ _ h => h) (Or.inl ⟨by rfl, ?_⟩) hHeld ?_ ?_; rotate_left; (·(rintro w' ⟨s0, s1, s2, s3, s4, s5, s6, s7, s8, s9, s10, s11, s12, s13, s14, s15, s16, s17, s18, s19⟩; go_simp; with_reducible rfl)); rotate_left; (·(simp only [q1,q2,q3,q4,q5,q6,q7]; rfl))
       refine take_ (i := 28) (N := some 106) (v := ?_) (a' := ?_) zc42_ rfl rfl (take_ofW HT_.out HW_.out (by kernel_rfl)) (fun _ _ _ h => h) (Or.inl ⟨by rfl, ?_⟩) hHeld ?_ ?_; rotate_left; (·(rintro w' ⟨s0, s1, s2, s3, s4, s5, s6, s7, s8, s9, s10, s11, s12, s13, s14, s15, s16, s17, s18, s19⟩; go_simp; with_reducible rfl)); rotate_left; (·(simp only [q1,q2,q3,q4,q5,q6,q7]; rfl))
       refine pure_ (i := 31) (N := some 109) (v := ?_) (a' := ?_) zc43_ rfl rfl (any_of HT_.out (by kernel_rfl)) (fun _ _ _ h => h) (Or.inl ⟨by rfl, ?_⟩) ?_ ?_; rotate_left; (·(intro w'; go_simp; with_reducible rfl)); rotate_left; (·(simp only [q1,q2,q3,q4,q5,q6,q7]; rfl))
       refine pure_ (i := 32) (N := some 110) (v := ?_) (a' := ?_) zc44_ rfl rfl (any_of HT_.out (by kernel_rfl)) (fun _ _ _ h => h) (Or.inl ⟨by rfl, ?_⟩) ?_ ?_; rotate_left; (·(intro w'; go_simp; with_reducible rfl)); rotate_left; (·(simp only [q1,q2,q3,q4,q5,q6,q7]; rfl))
       refine take_ (i := 33) (N := some 111) (v := ?_) (a' := ?_) zc45_ rfl rfl (take_ofW HT_.out HW_.out (by kernel_rfl)) (fun _ _ _ h => h) (Or.inl ⟨by rfl, ?_⟩) hHeld ?_ ?_; rotate_left; (·(rintro w' ⟨s0, s1, s2, s3, s4, s5, s6, s7, s8, s9, s10, s11, s12, s13, s14, s15, s16, s17, s18, s19⟩; go_simp; with_reducible rfl)); rotate_left; (·(simp only [q1,q2,q3,q4,q5,q6,q7]; rfl))
       refine pure_ (i := 34) (N := some 112) (v := ?_) (a' := ?_) zc46_ rfl rfl (any_of HT_.out (by kernel_rfl)) (fun _ _ _ h => h) (Or.inl ⟨by rfl, ?_⟩) ?_ ?_; rotate_left; (·(intro w'; go_simp; with_reducible rfl)); rotate_left; (·(simp only [q1,q2,q3,q4,q5,q6,q7]; rfl))
       refine pure_ (i := 35) (N := some 113) (v := ?_) (a' := ?_) zc47_ rfl rfl (any_of HT_.out (by kernel_rfl)) (fun _ _ _ h => h) (Or.inl ⟨by rfl, ?_⟩) ?_ ?_; rotate_left; (·(intro w'; go_simp; with_reducible rfl)); rotate_left; (·(simp only [q1,q2,q3,q4,q5,q6,q7]; rfl))
       refine pure_ (i := 36) (N := some 114) (v := ?_) (a' := ?_) zc48_ rfl rfl (any_of HT_.out (by kernel_rfl)) (fun _ _ _ h => h) (Or.inl ⟨by rfl, ?_⟩) ?_ ?_; rotate_left; (·(intro w'; go_simp; with_reducible rfl)); rotate_left; (·(simp only [q1,q2,q3,q4,q5,q6,q7]; rfl))
       refine pure_ (i := 37) (N := some 115) (v := ?_) (a' := ?_) zc49_ rfl rfl (any_of HT_.out (by kernel_rfl)) (fun _ _ _ h => h) (Or.inl ⟨by rfl, ?_⟩) ?_ ?_; rotate_left; (·(intro w'; go_simp; with_reducible rfl)); rotate_left; (·(simp only [q1,q2,q3,q4,q5,q6,q7]; rfl))
       refine done_ (done_of HT_.out (by kernel_rfl)) ?_
       try go_wp2
       have n0_ := Aside0.mk (Kd.R_drew HO_8.out)
       have n1_ := Aside0.mk (Kd.R_drew HO_9.out)
       have n2_ := Aside0.mk (blk_drew BK181.out)
       have n3_ := Aside0.mk (blk_drew BK196.out)
       have n4_ := Aside0.mk (below_drew1 HB.out)
       clear HO_8; clear HO_9; clear BK181; clear BK196; clear HB; have HO_8 := n0_; have HO_9 := n1_; have BK181 := n2_; have BK196 := n3_; have HB := n4_; clear n0_ n1_ n2_ n3_ n4_
       obtain ⟨Ao65, co65, eo65⟩ := Kd.R_slice HO_8.out
       (first | subst eo65 | (injection eo65 with f1_ f2_ f3_; have f4_ := f1_.symm; have f5_ := f3_.symm; clear f1_ f2_ f3_; subst f4_; subst f5_))
       have p200 : 0 ≤ (((rd_T60 l0_1 x55_2).f2) : Int) := of_decide_eq_true (by first | (with_reducible assumption) | assumption)
       have q200 : ((rd_T60 l0_1 x55_2).f2) < (x8_2.length : Int) := of_decide_eq_true (by first | (with_reducible assumption) | assumption)
       obtain ⟨ad200, e200, hx200_0⟩ := Kd.at_int (Kd.R_reads' HO_8.out).2.2 ((rd_T60 l0_1 x55_2).f2) p200 q200
       cases e200
       replace p200 := eq_true p200
       replace q200 := eq_true q200
       have p59 : 0 ≤ (((rd_T60 l0_1 x55_2).f2) : Int) := of_decide_eq_true (by first | (with_reducible assumption) | assumption)
       have q59 : (((rd_T60 l0_1 x55_2).f2) : Int) < ((x8_2.length : Int) : Int) := of_decide_eq_true (by first | (with_reducible assumption) | assumption)
       obtain ⟨go59, co59, eo59, gb59, gl59, cl59, HG59⟩ := Kd.R_form HO_8.out (by omega)
       (first | cases eo59 | (injection eo59 with ea_ en_ ec_; (first | subst ea_ | (injection ea_ with ea_; subst ea_)); subst ec_; clear en_))
       have GB59 := Aside0.mk gb59
       have GG59 := Aside0.mk HG59
       clear gb59 gl59 HG59
       (first | simp only [add_plain] at hx200_0 | skip)
       obtain ⟨hx59_0, hf59_0⟩ := Kd.R_celln 0 HO_8.out (((rd_T60 l0_1 x55_2).f2) : Int) p59 q59
       replace p59 := eq_true p59
       replace q59 := eq_true q59
       have HP66 := Kd.R_putn HO_8.out (((rd_T60 l0_1 x55_2).f2) : Int) (wrap64 ((rd x8_2 ((rd_T60 l0_1 x55_2).f2)) + ((rd_T60 l0_1 x55_2).f1)))
       rw [← Ny201.out] at HP66
       have HQ66 := Aside0.mk HP66
       clear HP66
       refine start_ (n := 10) (S := fun w' => w'.cell? ⟨gb196, 0, none⟩ = some (.int .i64 ((rd_T60 l0_1 x55_2).f0)) ∧ w'.cell? ⟨gb196, 1, none⟩ = some (.int .i64 ((rd_T60 l0_1 x55_2).f1)) ∧ w'.cell? ⟨gb196, 2, none⟩ = some (.int .i64 ((rd_T60 l0_1 x55_2).f2)) ∧ w'.cell? ⟨gb196, 3, none⟩ = some (.int .i64 ((rd_T60 l0_1 x55_2).f3)) ∧ w'.cell? ⟨go59, ((rd_T60 l0_1 x55_2).f2).toNat, none⟩ = some (.int .i64 (rd x8_2 ((rd_T60 l0_1 x55_2).f2)))) (ds := [9]) #[false, false, false, false, false, false, false, false, false, false] (by kernel_rfl) rfl rfl ⟨(blk_cell BK196.out 0).trans rfl, (blk_cell BK196.out 1).trans rfl, (blk_cell BK196.out 2).trans rfl, (blk_cell BK196.out 3).trans rfl, hx200_0⟩ (fun hHeld => ?_); refine with_tabW sequence_CheckK.tab22 sequence_CheckK.bits22 (fun HT_ HW_ => ?_)
       generalize w63.drew = w64 at HO_8 HO_9 BK181 BK196 HB GG59 HQ66 hf59_0 hx200_0 hx59_0 hHeld ⊢
       refine pure_ (i := 0) (N := some 117) (v := ?_) (a' := ?_) zc0_ rfl rfl (any_of HT_.out (by kernel_rfl)) (fun _ _ _ h => h) (Or.inl ⟨by rfl, ?_⟩) ?_ ?_; rotate_left; (·(intro w'; go_simp; with_reducible rfl)); rotate_left; (·(simp only [q1,q2,q3,q4,q5,q6,q7]; rfl))
       refine pure_ (i := 1) (N := some 118) (v := ?_) (a' := ?_) zc58_ rfl rfl (any_of HT_.out (by kernel_rfl)) (fun _ _ _ h => h) (Or.inl ⟨by rfl, ?_⟩) ?_ ?_; rotate_left; (·(intro w'; go_simp; with_reducible rfl)); rotate_left; (·(simp only [q1,q2,q3,q4,q5,q6,q7]; rfl))
       refine pure_ (i := 5) (N := some 122) (v := ?_) (a' := ?_) zc59_ rfl rfl (any_of HT_.out (by kernel_rfl)) (fun _ _ _ h => h) (Or.inl ⟨by rfl, ?_⟩) ?_ ?_; rotate_left; (·(intro w'; go_simp; with_reducible rfl)); rotate_left; (·(simp only [q1,q2,q3,q4,q5,q6,q7]; rfl))
       refine take_ (i := 2) (N := some 119) (v := ?_) (a' := ?_) zc60_ rfl rfl (take_ofW HT_.out HW_.out (by kernel_rfl)) (fun _ _ _ h => h) (Or.inl ⟨by rfl, ?_⟩) hHeld ?_ ?_; rotate_left; (·(rintro w' ⟨s0, s1, s2, s3, s4⟩; go_simp; with_reducible rfl)); rotate_left; (·(simp only [q1,q2,q3,q4,q5,q6,q7]; rfl))
       refine pure_ (i := 3) (N := some 120) (v := ?_) (a' := ?_) zc61_ rfl rfl (any_of HT_.out (by kernel_rfl)) (fun _ _ _ h => h) (Or.inl ⟨by rfl, ?_⟩) ?_ ?_; rotate_left; (·(intro w'; go_simp; with_reducible rfl)); rotate_left; (·(simp only [q1,q2,q3,q4,q5,q6,q7]; rfl))
       refine take_ (i := 4) (N := some 121) (v := ?_) (a' := ?_) zc62_ rfl rfl (take_ofW HT_.out HW_.out (by kernel_rfl)) (fun _ _ _ h => h) (Or.inl ⟨by rfl, ?_⟩) hHeld ?_ ?_; rotate_left; (·(rintro w' ⟨s0, s1, s2, s3, s4⟩; go_simp; with_reducible rfl)); rotate_left; (·(simp only [q1,q2,q3,q4,q5,q6,q7]; rfl))
       refine take_ (i := 6) (N := some 123) (v := ?_) (a' := ?_) zc7_ rfl rfl (take_ofW HT_.out HW_.out (by kernel_rfl)) (fun _ _ _ h => h) (Or.inl ⟨by rfl, ?_⟩) hHeld ?_ ?_; rotate_left; (·(rintro w' ⟨s0, s1, s2, s3, s4⟩; go_simp; with_reducible rfl)); rotate_left; (·(simp only [q1,q2,q3,q4,q5,q6,q7]; rfl))
       refine pure_ (i := 7) (N := some 124) (v := ?_) (a' := ?_) zc10_ rfl rfl (any_of HT_.out (by kernel_rfl)) (fun _ _ _ h => h) (Or.inl ⟨by rfl, ?_⟩) ?_ ?_; rotate_left; (·(intro w'; go_simp; with_reducible rfl)); rotate_left; (·(simp only [q1,q2,q3,q4,q5,q6,q7]; rfl))
       refine pure_ (i := 8) (N := some 125) (v := ?_) (a' := ?_) zc6_ rfl rfl (any_of HT_.out (by kernel_rfl)) (fun _ _ _ h => h) (Or.inl ⟨by rfl, ?_⟩) ?_ ?_; rotate_left; (·(intro w'; go_simp; with_reducible rfl)); rotate_left; (·(simp only [q1,q2,q3,q4,q5,q6,q7]; rfl))
       refine last_ (i := 9) (N := none) zc11_ rfl rfl (one_of HT_.out (by kernel_rfl)) (by decide) (fun K hK => ?_)
       refine skip_ (w1 := ?_) (by rfl) rfl ?_ ?_
       rotate_left; (·(go_simp; rfl))
       refine hK.out _ _ ?_
       clear hK K
       refine done_ (done_of HT_.out (by kernel_rfl)) ?_
       try go_wp2
       have n0_ : Aside0 (Kd.R (Kd.int .i64) 3 (w64.setCell ⟨go59, (((rd_T60 l0_1 x55_2).f2) : Int).toNat, none⟩ (.int .i64 (wrap64 ((rd x8_2 ((rd_T60 l0_1 x55_2).f2)) + ((rd_T60 l0_1 x55_2).f1))))) w.heap.size (fun k_ => some k_ ≠ (v193 : Value).ownBlock) (.slice (some ⟨go59, 0, none⟩) x8_2.length co65) y201) := ⟨by (with_reducible repeat (first | apply Kd.R_alloc | apply Kd.R_drewN | apply Kd.R_drew)); exact HQ66.out⟩
       have n1_ : Aside0 (Kd.R (Kd.int .i64) 3 (w64.setCell ⟨go59, (((rd_T60 l0_1 x55_2).f2) : Int).toNat, none⟩ (.int .i64 (wrap64 ((rd x8_2 ((rd_T60 l0_1 x55_2).f2)) + ((rd_T60 l0_1 x55_2).f1))))) w.heap.size (fun k_ => some k_ ≠ (.slice (some ⟨go59, 0, none⟩) x8_2.length co65 : Value).ownBlock) v193 x9_2) := ⟨by (with_reducible repeat (first | apply Kd.R_alloc | apply Kd.R_drewN | apply Kd.R_drew)); exact Kd.R_mono (Kd.R_far (p := ⟨go59, (((rd_T60 l0_1 x55_2).f2) : Int).toNat, none⟩) (Kd.R_mono HO_9.out (fun k_ hk => (⟨hk, fun e_ => hk (by rw [e_]; rfl)⟩ : _ ∧ k_ ≠ go59))) (fun _ hk => hk.2) (.int .i64 (wrap64 ((rd x8_2 ((rd_T60 l0_1 x55_2).f2)) + ((rd_T60 l0_1 x55_2).f1))))) (fun _ hk => hk.1)⟩
       have n2_ : Aside0 ((w64.setCell ⟨go59, (((rd_T60 l0_1 x55_2).f2) : Int).toNat, none⟩ (.int .i64 (wrap64 ((rd x8_2 ((rd_T60 l0_1 x55_2).f2)) + ((rd_T60 l0_1 x55_2).f1))))).heap[gb181]? = some (.cells #[.slice A0_0 l0_0.length c0_0, .slice (some ad195) l0_1.length c0_1, .slice A0_2 l0_2.length c0_2, .slice A0_3 l0_3.length c0_3] 38 (0, 0))) := ⟨by (with_reducible repeat (first | refine blk_drewN ?_ _ | refine blk_drew ?_ | refine blk_alloc ?_ _)); refine blk_far ?_ (by have h_ := Kd.R_ne HO_8.out BK181.out (by decide); intro e_; exact h_ (by rw [e_]; rfl)) _; (with_reducible repeat (first | refine blk_drewN ?_ _ | refine blk_drew ?_ | refine blk_alloc ?_ _)); exact BK181.out⟩
       have n3_ : Aside0 ((w64.setCell ⟨go59, (((rd_T60 l0_1 x55_2).f2) : Int).toNat, none⟩ (.int .i64 (wrap64 ((rd x8_2 ((rd_T60 l0_1 x55_2).f2)) + ((rd_T60 l0_1 x55_2).f1))))).heap[gb196]? = some (.cells #[.int .i64 ((rd_T60 l0_1 x55_2).f0), .int .i64 ((rd_T60 l0_1 x55_2).f1), .int .i64 ((rd_T60 l0_1 x55_2).f2), .int .i64 ((rd_T60 l0_1 x55_2).f3)] 60 (0, 0))) := ⟨by (with_reducible repeat (first | refine blk_drewN ?_ _ | refine blk_drew ?_ | refine blk_alloc ?_ _)); refine blk_far ?_ (by have h_ := Kd.R_ne HO_8.out BK196.out (by decide); intro e_; exact h_ (by rw [e_]; rfl)) _; (with_reducible repeat (first | refine blk_drewN ?_ _ | refine blk_drew ?_ | refine blk_alloc ?_ _)); exact BK196.out⟩
       have n4_ : Aside0 (Below w.heap.size w (w64.setCell ⟨go59, (((rd_T60 l0_1 x55_2).f2) : Int).toNat, none⟩ (.int .i64 (wrap64 ((rd x8_2 ((rd_T60 l0_1 x55_2).f2)) + ((rd_T60 l0_1 x55_2).f1)))))) := ⟨by repeat (first | (with_reducible first | exact HB.out | apply below_alloc | apply pw_below_drewN | apply below_drew1 | refine below_set ?_ GB59.out | refine below_set ?_ GE181.out | refine below_set ?_ GE196.out) | exact HB.out)⟩
       (try clear HO_8)
       (try clear HO_9)
       (try clear BK181)
       (try clear BK196)
       (try clear HB)
       generalize (w64.setCell ⟨go59, (((rd_T60 l0_1 x55_2).f2) : Int).toNat, none⟩ (.int .i64 (wrap64 ((rd x8_2 ((rd_T60 l0_1 x55_2).f2)) + ((rd_T60 l0_1 x55_2).f1))))) = w67 at n0_ n1_ n2_ n3_ n4_ ⊢
       have HO_8 := n0_; have HO_9 := n1_; have BK181 := n2_; have BK196 := n3_; have HB := n4_; clear n0_ n1_ n2_ n3_ n4_
       have n0_ := Aside0.mk (Kd.R_drew HO_8.out)
       have n1_ := Aside0.mk (Kd.R_drew HO_9.out)
       have n2_ := Aside0.mk (blk_drew BK181.out)
       have n3_ := Aside0.mk (blk_drew BK196.out)
       have n4_ := Aside0.mk (below_drew1 HB.out)
       clear HO_8; clear HO_9; clear BK181; clear BK196; clear HB; have HO_8 := n0_; have HO_9 := n1_; have BK181 := n2_; have BK196 := n3_; have HB := n4_; clear n0_ n1_ n2_ n3_ n4_
       obtain ⟨Ao69, co69, eo69⟩ := Kd.R_slice HO_9.out
       (first | subst eo69 | (injection eo69 with f1_ f2_ f3_; have f4_ := f1_.symm; have f5_ := f3_.symm; clear f1_ f2_ f3_; subst f4_; subst f5_))
       have p202 : 0 ≤ (((rd_T60 l0_1 x55_2).f3) : Int) := of_decide_eq_true (by first | (with_reducible assumption) | assumption)
       have q202 : ((rd_T60 l0_1 x55_2).f3) < (x9_2.length : Int) := of_decide_eq_true (by first | (with_reducible assumption) | assumption)
       obtain ⟨ad202, e202, hx202_0⟩ := Kd.at_int (Kd.R_reads' HO_9.out).2.2 ((rd_T60 l0_1 x55_2).f3) p202 q202
       cases e202
       replace p202 := eq_true p202
       replace q202 := eq_true q202
       have p62 : 0 ≤ (((rd_T60 l0_1 x55_2).f3) : Int) := of_decide_eq_true (by first | (with_reducible assumption) | assumption)
       have q62 : (((rd_T60 l0_1 x55_2).f3) : Int) < ((x9_2.length : Int) : Int) := of_decide_eq_true (by first | (with_reducible assumption) | assumption)
       obtain ⟨go62, co62, eo62, gb62, gl62, cl62, HG62⟩ := Kd.R_form HO_9.out (by omega)
       (first | cases eo62 | (injection eo62 with ea_ en_ ec_; (first | subst ea_ | (injection ea_ with ea_; subst ea_)); subst ec_; clear en_))
       have GB62 := Aside0.mk gb62
       have GG62 := Aside0.mk HG62
       clear gb62 gl62 HG62
       (first | simp only [add_plain] at hx202_0 | skip)
       obtain ⟨hx62_0, hf62_0⟩ := Kd.R_celln 0 HO_9.out (((rd_T60 l0_1 x55_2).f3) : Int) p62 q62
       replace p62 := eq_true p62
       replace q62 := eq_true q62
       have HP70 := Kd.R_putn HO_9.out (((rd_T60 l0_1 x55_2).f3) : Int) (wrap64 ((rd x9_2 ((rd_T60 l0_1 x55_2).f3)) + ((rd_T60 l0_1 x55_2).f1)))
       rw [← Ny203.out] at HP70
       have HQ70 := Aside0.mk HP70
       clear HP70
       refine start_ (n := 10) (S := fun w' => w'.cell? ⟨gb196, 0, none⟩ = some (.int .i64 ((rd_T60 l0_1 x55_2).f0)) ∧ w'.cell? ⟨gb196, 1, none⟩ = some (.int .i64 ((rd_T60 l0_1 x55_2).f1)) ∧ w'.cell? ⟨gb196, 2, none⟩ = some (.int .i64 ((rd_T60 l0_1 x55_2).f2)) ∧ w'.cell? ⟨gb196, 3, none⟩ = some (.int .i64 ((rd_T60 l0_1 x55_2).f3)) ∧ w'.cell? ⟨go62, ((rd_T60 l0_1 x55_2).f3).toNat, none⟩ = some (.int .i64 (rd x9_2 ((rd_T60 l0_1 x55_2).f3)))) (ds := [9]) #[false, false, false, false, false, false, false, false, false, false] (by kernel_rfl) rfl rfl ⟨(blk_cell BK196.out 0).trans rfl, (blk_cell BK196.out 1).trans rfl, (blk_cell BK196.out 2).trans rfl, (blk_cell BK196.out 3).trans rfl, hx202_0⟩ (fun hHeld => ?_); refine with_tabW sequence_CheckK.tab23 sequence_CheckK.bits23 (fun HT_ HW_ => ?_)
       generalize w67.drew = w68 at HO_8 HO_9 BK181 BK196 HB GG62 HQ66 HQ70 hf62_0 hx202_0 hx62_0 hHeld ⊢
       refine pure_ (i := 0) (N := some 126) (v := ?_) (a' := ?_) zc0_ rfl rfl (any_of HT_.out (by kernel_rfl)) (fun _ _ _ h => h) (Or.inl ⟨by rfl, ?_⟩) ?_ ?_; rotate_left; (·(intro w'; go_simp; with_reducible rfl)); rotate_left; (·(simp only [q1,q2,q3,q4,q5,q6,q7]; rfl))
       refine pure_ (i := 1) (N := some 127) (v := ?_) (a' := ?_) zc58_ rfl rfl (any_of HT_.out (by kernel_rfl)) (fun _ _ _ h => h) (Or.inl ⟨by rfl, ?_⟩) ?_ ?_; rotate_left; (·(intro w'; go_simp; with_reducible rfl)); rotate_left; (·(simp only [q1,q2,q3,q4,q5,q6,q7]; rfl))
       refine pure_ (i := 5) (N := some 131) (v := ?_) (a' := ?_) zc59_ rfl rfl (any_of HT_.out (by kernel_rfl)) (fun _ _ _ h => h) (Or.inl ⟨by rfl, ?_⟩) ?_ ?_; rotate_left; (·(intro w'; go_simp; with_reducible rfl)); rotate_left; (·(simp only [q1,q2,q3,q4,q5,q6,q7]; rfl))
       refine take_ (i := 2) (N := some 128) (v := ?_) (a' := ?_) zc60_ rfl rfl (take_ofW HT_.out HW_.out (by kernel_rfl)) (fun _ _ _ h => h) (Or.inl ⟨by rfl, ?_⟩) hHeld ?_ ?_; rotate_left; (·(rintro w' ⟨s0, s1, s2, s3, s4⟩; go_simp; with_reducible rfl)); rotate_left; (·(simp only [q1,q2,q3,q4,q5,q6,q7]; rfl))
       refine pure_ (i := 3) (N := some 129) (v := ?_) (a' := ?_) zc61_ rfl rfl (any_of HT_.out (by kernel_rfl)) (fun _ _ _ h => h) (Or.inl ⟨by rfl, ?_⟩) ?_ ?_; rotate_left; (·(intro w'; go_simp; with_reducible rfl)); rotate_left; (·(simp only [q1,q2,q3,q4,q5,q6,q7]; rfl))
       refine take_ (i := 4) (N := some 130) (v := ?_) (a' := ?_) zc62_ rfl rfl (take_ofW HT_.out HW_.out (by kernel_rfl)) (fun _ _ _ h => h) (Or.inl ⟨by rfl, ?_⟩) hHeld ?_ ?_; rotate_left; (·(rintro w' ⟨s0, s1, s2, s3, s4⟩; go_simp; with_reducible rfl)); rotate_left; (·(simp only [q1,q2,q3,q4,q5,q6,q7]; rfl))
       refine take_ (i := 6) (N := some 132) (v := ?_) (a' := ?_) zc7_ rfl rfl (take_ofW HT_.out HW_.out (by kernel_rfl)) (fun _ _ _ h => h) (Or.inl ⟨by rfl, ?_⟩) hHeld ?_ ?_; rotate_left; (·(rintro w' ⟨s0, s1, s2, s3, s4⟩; go_simp; with_reducible rfl)); rotate_left; (·(simp only [q1,q2,q3,q4,q5,q6,q7]; rfl))
       refine pure_ (i := 7) (N := some 133) (v := ?_) (a' := ?_) zc10_ rfl rfl (any_of HT_.out (by kernel_rfl)) (fun _ _ _ h => h) (Or.inl ⟨by rfl, ?_⟩) ?_ ?_; rotate_left; (·(intro w'; go_simp; with_reducible rfl)); rotate_left; (·(simp only [q1,q2,q3,q4,q5,q6,q7]; rfl))
       refine pure_ (i := 8) (N := some 134) (v := ?_) (a' := ?_) zc6_ rfl rfl (any_of HT_.out (by kernel_rfl)) (fun _ _ _ h => h) (Or.inl ⟨by rfl, ?_⟩) ?_ ?_; rotate_left; (·(intro w'; go_simp; with_reducible rfl)); rotate_left; (·(simp only [q1,q2,q3,q4,q5,q6,q7]; rfl))
       refine last_ (i := 9) (N := none) zc11_ rfl rfl (one_of HT_.out (by kernel_rfl)) (by decide) (fun K hK => ?_)
       refine skip_ (w1 := ?_) (by rfl) rfl ?_ ?_
       rotate_left; (·(go_simp; rfl))
       refine hK.out _ _ ?_
       clear hK K
       refine done_ (done_of HT_.out (by kernel_rfl)) ?_
       try go_wp2
       go_roundg kj34
       case measure => have := HK1.out; have := HK2.out; have := HJ34.out; omega
       case rel => exact ⟨(y201), (y203), (wrap64 (x55_2 + 1)), (by first | rfl | (simp; done) | (simp [*]; done)), H', ⟨by have := HK1.out; have := HK2.out; have := HJ34.out; omega⟩, ⟨by (with_reducible repeat (first | apply Kd.R_alloc | apply Kd.R_drewN | apply Kd.R_drew)); exact Kd.R_mono (Kd.R_far (p := ⟨go62, (((rd_T60 l0_1 x55_2).f3) : Int).toNat, none⟩) (Kd.R_mono HO_8.out (fun k_ hk => (⟨hk, fun e_ => hk (by rw [e_]; rfl)⟩ : _ ∧ k_ ≠ go62))) (fun _ hk => hk.2) (.int .i64 (wrap64 ((rd x9_2 ((rd_T60 l0_1 x55_2).f3)) + ((rd_T60 l0_1 x55_2).f1))))) (fun _ hk => hk.1)⟩, ⟨by (with_reducible repeat (first | apply Kd.R_alloc | apply Kd.R_drewN | apply Kd.R_drew)); exact HQ70.out⟩, ⟨by (with_reducible repeat (first | refine blk_drewN ?_ _ | refine blk_drew ?_ | refine blk_alloc ?_ _)); refine blk_far ?_ (by have h_ := Kd.R_ne HO_9.out BK181.out (by decide); intro e_; exact h_ (by rw [e_]; rfl)) _; (with_reducible repeat (first | refine blk_drewN ?_ _ | refine blk_drew ?_ | refine blk_alloc ?_ _)); exact BK181.out⟩, ⟨by repeat (first | (with_reducible first | exact HB.out | apply below_alloc | apply pw_below_drewN | apply below_drew1 | refine below_set ?_ GB62.out | refine below_set ?_ GE181.out | refine below_set ?_ GE196.out) | exact HB.out)⟩⟩
end Go.Proofs.Ytbhcchcjmgfpiaa.Print
