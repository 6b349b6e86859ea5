/- awake's contract: the examples of the chapter hold of Make, Sort and Check (partly written by a program of this seat, gw.py). -/
import Derived.Test.YtbhcchcjmgfpiaaGs
import Derived.Test.YtbhcchcjmgfpiaaGd
import Derived.Test.YtbhcchcjmgfpiaaPrint1
import Derived.Test.YtbhcchcjmgfpiaaPrint13
import Derived.Test.YtbhcchcjmgfpiaaGwf
import Derived.Deep.DeepMust
/- The examples of the chapter, worked out: what Make, Sort, Check and SameInts answer in awake. -/
namespace Go.Proofs.Ytbhcchcjmgfpiaa.Print
open Go.RowKit Go.Proofs.YtbhcchcjmgfpiaaW.PrintWords Go.Proofs.YtbhcchcjmgfpiaaW.PrintLast Go.Proofs.YtbhcchcjmgfpiaaW.PrintMore

theorem aw_make1 : sequence_Make.f [⟨5, 2⟩, ⟨6, 2⟩, ⟨7, 3⟩] [5, 5] = some ([5, 5], [⟨5, 2, 0, 0⟩, ⟨6, 2, 1, 0⟩, ⟨7, 3, 0, 1⟩], [5, 2], [4, 3], 0) := by kernel_rfl
theorem aw_make2 : sequence_Make.f [⟨1, 3⟩, ⟨2, 3⟩, ⟨3, 3⟩] [5, 5] = some ([], [], [], [], 4) := by kernel_rfl
theorem aw_make3 : sequence_Make.f [⟨1, 1⟩, ⟨2, 1⟩, ⟨3, 1⟩, ⟨4, 1⟩, ⟨5, 1⟩] [9, 9] = some ([], [], [], [], 4) := by kernel_rfl
theorem aw_check : sequence_Check.f [5, 5] [⟨5, 2, 0, 0⟩, ⟨6, 2, 1, 0⟩, ⟨7, 3, 0, 1⟩] [5, 2] [4, 3] = some (0, 0) := by kernel_rfl
theorem aw_sort1 : sequence_Sort.f [5, 5] [⟨5, 2, 0, 0⟩, ⟨6, 2, 1, 0⟩, ⟨7, 3, 0, 1⟩] [5, 2] [4, 3] [7, 6, 5, 7, 6] = some ([[0, 2, 3], [1, 4]], [[2, 1, 4], [0, 3]], [2, 1, 4, 0, 3], 0) := by kernel_rfl
theorem aw_sort2 : sequence_Sort.f [5, 5] [⟨5, 2, 0, 0⟩, ⟨6, 2, 1, 0⟩, ⟨7, 3, 0, 1⟩] [5, 2] [4, 3] [8] = some ([], [], [], 6) := by kernel_rfl
theorem aw_sort3 : sequence_Sort.f [5, 5] [⟨5, 2, 0, 0⟩, ⟨6, 2, 1, 0⟩, ⟨7, 3, 0, 1⟩] [5, 2] [4, 3] [5, 5, 5] = some ([], [], [], 4) := by kernel_rfl
theorem aw_same1 : letterbagkit_SameInts.f 9 [5, 2] [5, 2] = some true := by kernel_rfl
theorem aw_same2 : letterbagkit_SameInts.f 9 [4, 3] [4, 3] = some true := by kernel_rfl
theorem aw_same3 : letterbagkit_SameInts.f 9 [5, 5] [5, 5] = some true := by kernel_rfl
theorem aw_same4 : letterbagkit_SameInts.f 9 [0, 2, 3] [0, 2, 3] = some true := by kernel_rfl
theorem aw_same5 : letterbagkit_SameInts.f 9 [1, 4] [1, 4] = some true := by kernel_rfl
theorem aw_same6 : letterbagkit_SameInts.f 9 [2, 1, 4] [2, 1, 4] = some true := by kernel_rfl
theorem aw_same7 : letterbagkit_SameInts.f 9 [0, 3] [0, 3] = some true := by kernel_rfl
theorem aw_same8 : letterbagkit_SameInts.f 9 [2, 1, 4, 0, 3] [2, 1, 4, 0, 3] = some true := by kernel_rfl

theorem C_ints {w : World} {g : Nat} (l : List Int) (hl : l.length ≤ 1000) {cs : Array Value} (h : w.heap[g]? = some (.cells cs 3 (0, 0))) (hc : cs = (l.map (Value.int .i64)).toArray) : Kd.C (Kd.int .i64) w (some ⟨g, 0, none⟩) l.length l := by
  subst hc
  refine ⟨rfl, by omega, fun _ => ⟨_, rfl, fun j p hj => ⟨[.int .i64 p], rfl, rfl, fun i u hu => ?_⟩⟩⟩
  cases i with
  | succ i => simp at hu
  | zero =>
    rw [add_at]
    refine (blk_cell h _).trans ?_
    simp only [List.getElem?_cons_zero, Option.some.injEq] at hu
    subst hu
    show (List.map (Value.int .i64) l).toArray[0 + (j * 1 + 0)]? = _
    simp [hj]
def stopCells (x : S27) : List Value := [.int .i64 x.f0, .int .i64 x.f1]
theorem stopCells_get : ∀ (l : List S27) (j : Nat) (p : S27), l[j]? = some p → (l.flatMap stopCells)[j * 2]? = some (.int .i64 p.f0) ∧ (l.flatMap stopCells)[j * 2 + 1]? = some (.int .i64 p.f1)
  | [], j, p, h => by simp at h
  | x :: xs, 0, p, h => by
    simp only [List.getElem?_cons_zero, Option.some.injEq] at h
    subst h
    exact ⟨rfl, rfl⟩
  | x :: xs, j + 1, p, h => by
    have := stopCells_get xs j p (by simpa using h)
    rw [show (j + 1) * 2 = j * 2 + 2 by omega]
    exact this
theorem C_stops {w : World} {g : Nat} (l : List S27) (hl : l.length ≤ 1000) {cs : Array Value} (h : w.heap[g]? = some (.cells cs 27 (0, 0))) (hc : cs = (l.flatMap stopCells).toArray) : Kd.C k27 w (some ⟨g, 0, none⟩) l.length l := by
  subst hc
  refine ⟨rfl, by omega, fun _ => ⟨_, rfl, fun j p hj => ⟨[.int .i64 p.f0, .int .i64 p.f1], rfl, k27_mk w p, fun i u hu => ?_⟩⟩⟩
  have hg := stopCells_get l j p hj
  rw [add_at]
  refine (blk_cell h _).trans ?_
  show (l.flatMap stopCells).toArray[0 + (j * 2 + i)]? = _
  rw [Nat.zero_add, List.getElem?_toArray]
  match i, hu with
  | 0, hu =>
    simp only [List.getElem?_cons_zero, Option.some.injEq] at hu
    subst hu
    exact hg.1
  | 1, hu =>
    simp only [List.getElem?_cons_succ, List.getElem?_cons_zero, Option.some.injEq] at hu
    subst hu
    exact hg.2
  | i + 2, hu => simp at hu
end Go.Proofs.Ytbhcchcjmgfpiaa.Print

/- awake's contract: the examples of the chapter hold of Make, Sort and Check. Written by a program of this seat (gw.py); Lean checks it. -/
namespace Go.Proofs.Ytbhcchcjmgfpiaa.Print
open Go.RowKit Go.Proofs.YtbhcchcjmgfpiaaW.PrintWords Go.Proofs.YtbhcchcjmgfpiaaW.PrintLast Go.Proofs.YtbhcchcjmgfpiaaW.PrintMore
attribute [local go_sem high] eqA60
set_option linter.unusedVariables false
set_option linter.unusedSimpArgs false

theorem row_out {α : Type} {d : Kd α} {e : Nat} {w : World} {base : Nat} {ok : Nat → Prop} {v : Value} {xs : List α} (h : d.R e w base ok v xs) : ∃ A c, v = .slice A xs.length c ∧ xs.length ≤ c ∧ d.C w A xs.length xs := by
  obtain ⟨A, c, rfl⟩ := Kd.R_slice h
  exact ⟨A, c, rfl, (Kd.R_reads' h).2.1, (Kd.R_reads' h).2.2⟩
theorem row_form {α : Type} {d : Kd α} {e : Nat} {w : World} {base : Nat} {ok : Nat → Prop} {v : Value} {xs : List α} (h : d.R e w base ok v xs) (hp : 0 < xs.length) : ∃ g c, v = .slice (some ⟨g, 0, none⟩) xs.length c ∧ xs.length ≤ c ∧ d.C w (some ⟨g, 0, none⟩) xs.length xs ∧ g < w.heap.size := by
  obtain ⟨g, c, rfl, _, hl, _⟩ := Kd.R_form h hp
  exact ⟨g, c, rfl, (Kd.R_reads' h).2.1, (Kd.R_reads' h).2.2, hl⟩
theorem seat_cells {w : World} {g : Nat} {xs : List S60} (h : Kd.C k60 w (some ⟨g, 0, none⟩) xs.length xs) (j : Nat) (hj : j < xs.length) : w.cell? ⟨g, j * 4, none⟩ = some (.int .i64 (rd_T60 xs j).f0) ∧ w.cell? ⟨g, j * 4 + 1, none⟩ = some (.int .i64 (rd_T60 xs j).f1) ∧ w.cell? ⟨g, j * 4 + 2, none⟩ = some (.int .i64 (rd_T60 xs j).f2) ∧ w.cell? ⟨g, j * 4 + 3, none⟩ = some (.int .i64 (rd_T60 xs j).f3) := by
  obtain ⟨ad, e, h0, h1, h2, h3⟩ := at_T60 h (j : Int) (by omega) (by omega)
  injection e with e
  subst e
  simp only [Int.toNat_natCast, add_plain] at h0 h1 h2 h3
  exact ⟨h0, h1, h2, h3⟩
theorem rows_cell {w : World} {g : Nat} {xs : List (List Int)} (h : Kd.C (Kd.slice 3 (Kd.int .i64)) w (some ⟨g, 0, none⟩) xs.length xs) (j : Nat) (hj : j < xs.length) : ∃ A c, w.cell? ⟨g, j, none⟩ = some (.slice A (rd_L4 xs j).length c) ∧ (rd_L4 xs j).length ≤ c ∧ Kd.C (Kd.int .i64) w A (rd_L4 xs j).length (rd_L4 xs j) := by
  obtain ⟨ad, A, c, e, h0, h1, h2⟩ := at_L4 h (j : Int) (by omega) (by omega)
  injection e with e
  subst e
  simp only [Int.toNat_natCast, add_plain] at h0
  exact ⟨A, c, h0, h1, h2⟩
theorem same_calls (A0 : Option Addr) (c0 : Nat) (l0 : List Int) (A1 : Option Addr) (c1 : Nat) (l1 : List Int) (w : World) (hr0 : Kd.C (Kd.int .i64) w A0 l0.length l0) (hc0 : l0.length ≤ c0) (hr1 : Kd.C (Kd.int .i64) w A1 l1.length l1) (hc1 : l1.length ≤ c1) (h : letterbagkit_SameInts.f 9 l0 l1 = some true) :
    Calls Try.prog 21 #[.slice A0 l0.length c0, .slice A1 l1.length c1] w fun e w' => e = .returned (.bool true) ∧ Below w.heap.size w w' :=
  (letterbagkit_SameInts.calls 9 A0 c0 l0 A1 c1 l1 true w hr0 hc0 hr1 hc1 h).mono fun _ _ hh => ⟨hh.1, hh.2.below⟩
set_option maxHeartbeats 16000000 in
set_option maxRecDepth 100000 in
theorem letterbaglaw28_awake.calls (r : Bool) (w : World) (h : letterbaglaw28_awake.f = some r) :
    Calls Try.prog 18 #[] w fun e w' => e = .returned (.bool r) ∧ Below w.heap.size w w' := by
  obtain rfl : true = r := Option.some.inj h
  clear h
  have hu60 := Try.underlying60
  have hu38 := Try.underlying38
  have hu50 := Try.underlying50
  go_enter Try.func18, Try.ntmps18
  go_wp2_with (first
    | ((with_reducible refine gate_dst (N := 22) rfl ?_); go_must (refine goesL_ (some 22) rfl rfl Try.func16 (by kernel_rfl) rfl #[.slice (some ⟨w.heap.size, 0, none⟩) 3 3, .slice (some ⟨w.heap.size + 1, 0, none⟩) 2 2] rfl (by (try simp only [List.map_toArray, List.map_cons, List.map_nil]); first | done | rfl) ?_; refine (sequence_Make.calls (some ⟨w.heap.size, 0, none⟩) 3 [⟨5, 2⟩, ⟨6, 2⟩, ⟨7, 3⟩] (some ⟨w.heap.size + 1, 0, none⟩) 2 [5, 5] [5, 5] [⟨5, 2, 0, 0⟩, ⟨6, 2, 1, 0⟩, ⟨7, 3, 0, 1⟩] [5, 2] [4, 3] 0 ((w.alloc (.cells #[.int .i64 5, .int .i64 2, .int .i64 6, .int .i64 2, .int .i64 7, .int .i64 3] 27)).alloc (.cells #[.int .i64 5, .int .i64 5] 3)) (C_stops _ (by decide) (blk_alloc (blk_new w _) _) rfl) (by decide) (C_ints _ (by decide) (by have := blk_new (w.alloc (.cells #[.int .i64 5, .int .i64 2, .int .i64 6, .int .i64 2, .int .i64 7, .int .i64 3] 27)) (.cells #[.int .i64 5, .int .i64 5] 3); rwa [World.size_alloc] at this) rfl) (by decide) aw_make1).mono ?_)
       rintro e w1 ⟨v0, v1, v2, v3, rfl, ho0, ho1, ho2, ho3, hb⟩
       obtain ⟨g0, k0, rfl, hk0, hc0, hg0⟩ := row_form ho0 (by decide)
       obtain ⟨g1, k1, rfl, hk1, hc1, hg1⟩ := row_form ho1 (by decide)
       obtain ⟨g2, k2, rfl, hk2, hc2, hg2⟩ := row_form ho2 (by decide)
       obtain ⟨g3, k3, rfl, hk3, hc3, hg3⟩ := row_form ho3 (by decide)
       refine ⟨_, rfl, ?_⟩
       have HB := Aside0.mk (below_then (Below.alloc (Below.alloc (Below.refl w.heap.size w) (Nat.le_refl _) (.cells #[.int .i64 5, .int .i64 2, .int .i64 6, .int .i64 2, .int .i64 7, .int .i64 3] 27)) (by rw [World.size_alloc]; omega) (.cells #[.int .i64 5, .int .i64 5] 3)) (by rw [World.size_alloc, World.size_alloc]; omega) hb)
       obtain ⟨s0, s1, s2, s3⟩ := seat_cells hc1 0 (by decide)
       obtain ⟨s4, s5, s6, s7⟩ := seat_cells hc1 1 (by decide)
       obtain ⟨s8, s9, s10, s11⟩ := seat_cells hc1 2 (by decide)
       simp only [Nat.zero_mul, Nat.zero_add, Nat.one_mul, Nat.reduceMul, Nat.reduceAdd] at s0 s1 s2 s3 s4 s5 s6 s7 s8 s9 s10 s11
       have t0 : w1.cell? ⟨g1, 0, none⟩ = some (.int .i64 5) := s0
       have t1 : w1.cell? ⟨g1, 1, none⟩ = some (.int .i64 2) := s1
       have t2 : w1.cell? ⟨g1, 2, none⟩ = some (.int .i64 0) := s2
       have t3 : w1.cell? ⟨g1, 3, none⟩ = some (.int .i64 0) := s3
       have t4 : w1.cell? ⟨g1, 4, none⟩ = some (.int .i64 6) := s4
       have t5 : w1.cell? ⟨g1, 5, none⟩ = some (.int .i64 2) := s5
       have t6 : w1.cell? ⟨g1, 6, none⟩ = some (.int .i64 1) := s6
       have t7 : w1.cell? ⟨g1, 7, none⟩ = some (.int .i64 0) := s7
       have t8 : w1.cell? ⟨g1, 8, none⟩ = some (.int .i64 7) := s8
       have t9 : w1.cell? ⟨g1, 9, none⟩ = some (.int .i64 3) := s9
       have t10 : w1.cell? ⟨g1, 10, none⟩ = some (.int .i64 0) := s10
       have t11 : w1.cell? ⟨g1, 11, none⟩ = some (.int .i64 1) := s11
       have HC0 := Aside0.mk hc0; have HC1 := Aside0.mk hc1; have HC2 := Aside0.mk hc2; have HC3 := Aside0.mk hc3
       simp only [List.length_cons, List.length_nil, Nat.reduceAdd] at hk0 hk1 hk2 hk3
       clear s0 s1 s2 s3 s4 s5 s6 s7 s8 s9 s10 s11 ho0 ho1 ho2 ho3 hc0 hc1 hc2 hc3 hb)
    | ((with_reducible refine gate_dst (N := 60) rfl ?_); go_must (refine goesL_ (some 60) rfl rfl Try.func21 (by kernel_rfl) rfl #[.slice (some ⟨g2, 0, none⟩) 2 k2, .slice (some ⟨w1.heap.size + 1, 0, none⟩) 2 2] rfl (by (try simp only [List.map_toArray, List.map_cons, List.map_nil]); first | done | rfl) ?_; refine (same_calls (some ⟨g2, 0, none⟩) k2 [5, 2] (some ⟨w1.heap.size + 1, 0, none⟩) 2 [5, 2] ((w1.alloc (.cells #[.slice (some ⟨g0, 0, none⟩) 2 k0, .slice (some ⟨g1, 0, none⟩) 3 k1, .slice (some ⟨g2, 0, none⟩) 2 k2, .slice (some ⟨g3, 0, none⟩) 2 k3] 38)).alloc (.cells #[.int .i64 5, .int .i64 2] 3)) (Kd.C_below HC2.out (by repeat (first | (with_reducible exact Below.refl _ _) | apply below_alloc))) (by first | assumption | omega) (C_ints _ (by decide) (by have := blk_new (w1.alloc (.cells #[.slice (some ⟨g0, 0, none⟩) 2 k0, .slice (some ⟨g1, 0, none⟩) 3 k1, .slice (some ⟨g2, 0, none⟩) 2 k2, .slice (some ⟨g3, 0, none⟩) 2 k3] 38)) (.cells #[.int .i64 5, .int .i64 2] 3); (try simp only [World.size_alloc] at this); exact this) rfl) (by decide) aw_same1).mono ?_)
       rintro e w2 ⟨rfl, hb⟩
       refine ⟨_, rfl, ?_⟩
       have hbx : Below w1.heap.size w1 w2 := below_step (by repeat (first | (with_reducible exact Below.refl _ _) | apply below_alloc)) hb
       replace HB := Aside0.mk (below_then HB.out HB.out.size hbx)
       replace HC0 := Aside0.mk (Kd.C_below HC0.out hbx)
       replace HC1 := Aside0.mk (Kd.C_below HC1.out hbx)
       replace HC2 := Aside0.mk (Kd.C_below HC2.out hbx)
       replace HC3 := Aside0.mk (Kd.C_below HC3.out hbx)
       have HPB := Aside0.mk (blk_below (blk_alloc (blk_new w1 (.cells #[.slice (some ⟨g0, 0, none⟩) 2 k0, .slice (some ⟨g1, 0, none⟩) 3 k1, .slice (some ⟨g2, 0, none⟩) 2 k2, .slice (some ⟨g3, 0, none⟩) 2 k3] 38)) (.cells #[.int .i64 5, .int .i64 2] 3)) hb)
       have pc0 : w2.cell? ⟨w1.heap.size, 0, none⟩ = some (.slice (some ⟨g0, 0, none⟩) 2 k0) := (blk_cell HPB.out 0).trans rfl
       have pc1 : w2.cell? ⟨w1.heap.size, 1, none⟩ = some (.slice (some ⟨g1, 0, none⟩) 3 k1) := (blk_cell HPB.out 1).trans rfl
       have pc2 : w2.cell? ⟨w1.heap.size, 2, none⟩ = some (.slice (some ⟨g2, 0, none⟩) 2 k2) := (blk_cell HPB.out 2).trans rfl
       have pc3 : w2.cell? ⟨w1.heap.size, 3, none⟩ = some (.slice (some ⟨g3, 0, none⟩) 2 k3) := (blk_cell HPB.out 3).trans rfl
       have pl := blk_lt HPB.out
       clear hb hbx
       clear t0 t1 t2 t3 t4 t5 t6 t7 t8 t9 t10 t11)
    | ((with_reducible refine gate_dst (N := 66) rfl ?_); go_must (refine gate_guard (by first | rfl | go_simp) ?_; dsimp only; refine goesL_ (some 66) rfl rfl Try.func21 (by kernel_rfl) rfl #[.slice (some ⟨g3, 0, none⟩) 2 k3, .slice (some ⟨w2.heap.size, 0, none⟩) 2 2] rfl (by (try simp only [List.map_toArray, List.map_cons, List.map_nil]); first | done | rfl) ?_; refine (same_calls (some ⟨g3, 0, none⟩) k3 [4, 3] (some ⟨w2.heap.size, 0, none⟩) 2 [4, 3] (w2.alloc (.cells #[.int .i64 4, .int .i64 3] 3)) (Kd.C_below HC3.out (by repeat (first | (with_reducible exact Below.refl _ _) | apply below_alloc))) (by first | assumption | omega) (C_ints _ (by decide) (by have := blk_new w2 (.cells #[.int .i64 4, .int .i64 3] 3); (try simp only [World.size_alloc] at this); exact this) rfl) (by decide) aw_same2).mono ?_)
       rintro e w3 ⟨rfl, hb⟩
       refine ⟨_, rfl, ?_⟩
       clear pc0 pc1 pc2 pc3 pl
       have hbx : Below w2.heap.size w2 w3 := below_step (by repeat (first | (with_reducible exact Below.refl _ _) | apply below_alloc)) hb
       replace HB := Aside0.mk (below_then HB.out HB.out.size hbx)
       replace HC0 := Aside0.mk (Kd.C_below HC0.out hbx)
       replace HC1 := Aside0.mk (Kd.C_below HC1.out hbx)
       replace HC2 := Aside0.mk (Kd.C_below HC2.out hbx)
       replace HC3 := Aside0.mk (Kd.C_below HC3.out hbx)
       replace HPB := Aside0.mk (blk_below HPB.out hbx)
       have pc0 : w3.cell? ⟨w1.heap.size, 0, none⟩ = some (.slice (some ⟨g0, 0, none⟩) 2 k0) := (blk_cell HPB.out 0).trans rfl
       have pc1 : w3.cell? ⟨w1.heap.size, 1, none⟩ = some (.slice (some ⟨g1, 0, none⟩) 3 k1) := (blk_cell HPB.out 1).trans rfl
       have pc2 : w3.cell? ⟨w1.heap.size, 2, none⟩ = some (.slice (some ⟨g2, 0, none⟩) 2 k2) := (blk_cell HPB.out 2).trans rfl
       have pc3 : w3.cell? ⟨w1.heap.size, 3, none⟩ = some (.slice (some ⟨g3, 0, none⟩) 2 k3) := (blk_cell HPB.out 3).trans rfl
       have pl := blk_lt HPB.out
       clear hb hbx)
    | ((with_reducible refine gate_dst (N := 73) rfl ?_); go_must (refine gate_guard (by first | rfl | go_simp) ?_; dsimp only; refine goesL_ (some 73) rfl rfl Try.func21 (by kernel_rfl) rfl #[.slice (some ⟨g0, 0, none⟩) 2 k0, .slice (some ⟨w3.heap.size, 0, none⟩) 2 2] rfl (by (try simp only [List.map_toArray, List.map_cons, List.map_nil]); first | done | rfl) ?_; refine (same_calls (some ⟨g0, 0, none⟩) k0 [5, 5] (some ⟨w3.heap.size, 0, none⟩) 2 [5, 5] (w3.alloc (.cells #[.int .i64 5, .int .i64 5] 3)) (Kd.C_below HC0.out (by repeat (first | (with_reducible exact Below.refl _ _) | apply below_alloc))) (by first | assumption | omega) (C_ints _ (by decide) (by have := blk_new w3 (.cells #[.int .i64 5, .int .i64 5] 3); (try simp only [World.size_alloc] at this); exact this) rfl) (by decide) aw_same3).mono ?_)
       rintro e w4 ⟨rfl, hb⟩
       refine ⟨_, rfl, ?_⟩
       clear pc0 pc1 pc2 pc3 pl
       have hbx : Below w3.heap.size w3 w4 := below_step (by repeat (first | (with_reducible exact Below.refl _ _) | apply below_alloc)) hb
       replace HB := Aside0.mk (below_then HB.out HB.out.size hbx)
       replace HC0 := Aside0.mk (Kd.C_below HC0.out hbx)
       replace HC1 := Aside0.mk (Kd.C_below HC1.out hbx)
       replace HC2 := Aside0.mk (Kd.C_below HC2.out hbx)
       replace HC3 := Aside0.mk (Kd.C_below HC3.out hbx)
       replace HPB := Aside0.mk (blk_below HPB.out hbx)
       have pc0 : w4.cell? ⟨w1.heap.size, 0, none⟩ = some (.slice (some ⟨g0, 0, none⟩) 2 k0) := (blk_cell HPB.out 0).trans rfl
       have pc1 : w4.cell? ⟨w1.heap.size, 1, none⟩ = some (.slice (some ⟨g1, 0, none⟩) 3 k1) := (blk_cell HPB.out 1).trans rfl
       have pc2 : w4.cell? ⟨w1.heap.size, 2, none⟩ = some (.slice (some ⟨g2, 0, none⟩) 2 k2) := (blk_cell HPB.out 2).trans rfl
       have pc3 : w4.cell? ⟨w1.heap.size, 3, none⟩ = some (.slice (some ⟨g3, 0, none⟩) 2 k3) := (blk_cell HPB.out 3).trans rfl
       have pl := blk_lt HPB.out
       clear hb hbx)
    | ((with_reducible refine gate_dst (N := 79) rfl ?_); go_must (refine goesL_ (some 79) rfl rfl Try.func23 (by kernel_rfl) rfl #[.agg #[.slice (some ⟨g0, 0, none⟩) 2 k0, .slice (some ⟨g1, 0, none⟩) 3 k1, .slice (some ⟨g2, 0, none⟩) 2 k2, .slice (some ⟨g3, 0, none⟩) 2 k3], .slice (some ⟨w4.heap.size, 0, none⟩) 5 5] rfl (by (try simp only [List.map_toArray, List.map_cons, List.map_nil]); first | done | rfl) ?_; refine (sequence_Sort.calls (some ⟨g0, 0, none⟩) k0 [5, 5] (some ⟨g1, 0, none⟩) k1 [⟨5, 2, 0, 0⟩, ⟨6, 2, 1, 0⟩, ⟨7, 3, 0, 1⟩] (some ⟨g2, 0, none⟩) k2 [5, 2] (some ⟨g3, 0, none⟩) k3 [4, 3] (some ⟨w4.heap.size, 0, none⟩) 5 [7, 6, 5, 7, 6] [[0, 2, 3], [1, 4]] [[2, 1, 4], [0, 3]] [2, 1, 4, 0, 3] 0 (w4.alloc (.cells #[.int .i64 7, .int .i64 6, .int .i64 5, .int .i64 7, .int .i64 6] 3)) (Kd.C_below HC0.out (by repeat (first | (with_reducible exact Below.refl _ _) | apply below_alloc))) hk0 (Kd.C_below HC1.out (by repeat (first | (with_reducible exact Below.refl _ _) | apply below_alloc))) hk1 (Kd.C_below HC2.out (by repeat (first | (with_reducible exact Below.refl _ _) | apply below_alloc))) hk2 (Kd.C_below HC3.out (by repeat (first | (with_reducible exact Below.refl _ _) | apply below_alloc))) hk3 (C_ints _ (by decide) (by have := blk_new w4 (.cells #[.int .i64 7, .int .i64 6, .int .i64 5, .int .i64 7, .int .i64 6] 3); (try simp only [World.size_alloc] at this); exact this) rfl) (by decide) aw_sort1).mono ?_)
       rintro e w5 ⟨v0, v1, v2, rfl, ho0, ho1, ho2, hb⟩
       obtain ⟨gf, kf, rfl, hkf, hcf, hgf⟩ := row_form (Kd.S_R ho0) (by decide)
       obtain ⟨gs, ks, rfl, hks, hcs, hgs⟩ := row_form (Kd.S_R ho1) (by decide)
       obtain ⟨go, ko, rfl, hko, hco, hgo⟩ := row_form ho2 (by decide)
       obtain ⟨F0, m0, rf0, hm0, hF0⟩ := rows_cell hcf 0 (by decide)
       obtain ⟨F1, m1, rf1, hm1, hF1⟩ := rows_cell hcf 1 (by decide)
       obtain ⟨F2, m2, rf2, hm2, hF2⟩ := rows_cell hcs 0 (by decide)
       obtain ⟨F3, m3, rf3, hm3, hF3⟩ := rows_cell hcs 1 (by decide)
       refine ⟨_, rfl, ?_⟩
       replace rf0 : w5.cell? ⟨gf, 0, none⟩ = some (.slice F0 3 m0) := rf0
       replace hm0 : 3 ≤ m0 := hm0
       have HF0 := Aside0.mk (show Kd.C (Kd.int .i64) w5 F0 3 [0, 2, 3] from hF0)
       replace rf1 : w5.cell? ⟨gf, 1, none⟩ = some (.slice F1 2 m1) := rf1
       replace hm1 : 2 ≤ m1 := hm1
       have HF1 := Aside0.mk (show Kd.C (Kd.int .i64) w5 F1 2 [1, 4] from hF1)
       replace rf2 : w5.cell? ⟨gs, 0, none⟩ = some (.slice F2 3 m2) := rf2
       replace hm2 : 3 ≤ m2 := hm2
       have HF2 := Aside0.mk (show Kd.C (Kd.int .i64) w5 F2 3 [2, 1, 4] from hF2)
       replace rf3 : w5.cell? ⟨gs, 1, none⟩ = some (.slice F3 2 m3) := rf3
       replace hm3 : 2 ≤ m3 := hm3
       have HF3 := Aside0.mk (show Kd.C (Kd.int .i64) w5 F3 2 [0, 3] from hF3)
       have HO := Aside0.mk (show Kd.C (Kd.int .i64) w5 (some ⟨go, 0, none⟩) 5 [2, 1, 4, 0, 3] from hco)
       replace hko : 5 ≤ ko := hko
       replace hkf : 2 ≤ kf := hkf
       replace hks : 2 ≤ ks := hks
       clear pc0 pc1 pc2 pc3 pl
       have hbx : Below w4.heap.size w4 w5 := below_step (by repeat (first | (with_reducible exact Below.refl _ _) | apply below_alloc)) hb
       replace HB := Aside0.mk (below_then HB.out HB.out.size hbx)
       replace HC0 := Aside0.mk (Kd.C_below HC0.out hbx)
       replace HC1 := Aside0.mk (Kd.C_below HC1.out hbx)
       replace HC2 := Aside0.mk (Kd.C_below HC2.out hbx)
       replace HC3 := Aside0.mk (Kd.C_below HC3.out hbx)
       replace HPB := Aside0.mk (blk_below HPB.out hbx)
       have pc0 : w5.cell? ⟨w1.heap.size, 0, none⟩ = some (.slice (some ⟨g0, 0, none⟩) 2 k0) := (blk_cell HPB.out 0).trans rfl
       have pc1 : w5.cell? ⟨w1.heap.size, 1, none⟩ = some (.slice (some ⟨g1, 0, none⟩) 3 k1) := (blk_cell HPB.out 1).trans rfl
       have pc2 : w5.cell? ⟨w1.heap.size, 2, none⟩ = some (.slice (some ⟨g2, 0, none⟩) 2 k2) := (blk_cell HPB.out 2).trans rfl
       have pc3 : w5.cell? ⟨w1.heap.size, 3, none⟩ = some (.slice (some ⟨g3, 0, none⟩) 2 k3) := (blk_cell HPB.out 3).trans rfl
       have pl := blk_lt HPB.out
       clear hb hbx ho0 ho1 ho2 hcf hcs hco hF0 hF1 hF2 hF3)
    | ((with_reducible refine gate_dst (N := 102) rfl ?_); go_must (refine gate_guard (by first | rfl | go_simp) ?_; dsimp only; refine goesL_ (some 102) rfl rfl Try.func21 (by kernel_rfl) rfl #[.slice F0 3 m0, .slice (some ⟨w5.heap.size + 1, 0, none⟩) 3 3] rfl (by (try simp only [List.map_toArray, List.map_cons, List.map_nil]); first | done | rfl) ?_; refine (same_calls F0 m0 [0, 2, 3] (some ⟨w5.heap.size + 1, 0, none⟩) 3 [0, 2, 3] ((w5.alloc (.cells #[.slice (some ⟨gf, 0, none⟩) 2 kf, .slice (some ⟨gs, 0, none⟩) 2 ks, .slice (some ⟨go, 0, none⟩) 5 ko] 50)).alloc (.cells #[.int .i64 0, .int .i64 2, .int .i64 3] 3)) (Kd.C_below HF0.out (by repeat (first | (with_reducible exact Below.refl _ _) | apply below_alloc))) (by first | assumption | omega) (C_ints _ (by decide) (by have := blk_new (w5.alloc (.cells #[.slice (some ⟨gf, 0, none⟩) 2 kf, .slice (some ⟨gs, 0, none⟩) 2 ks, .slice (some ⟨go, 0, none⟩) 5 ko] 50)) (.cells #[.int .i64 0, .int .i64 2, .int .i64 3] 3); (try simp only [World.size_alloc] at this); exact this) rfl) (by decide) aw_same4).mono ?_)
       rintro e w6 ⟨rfl, hb⟩
       refine ⟨_, rfl, ?_⟩
       clear pc0 pc1 pc2 pc3 pl
       have hbx : Below w5.heap.size w5 w6 := below_step (by repeat (first | (with_reducible exact Below.refl _ _) | apply below_alloc)) hb
       replace HB := Aside0.mk (below_then HB.out HB.out.size hbx)
       replace HC0 := Aside0.mk (Kd.C_below HC0.out hbx)
       replace HC1 := Aside0.mk (Kd.C_below HC1.out hbx)
       replace HC2 := Aside0.mk (Kd.C_below HC2.out hbx)
       replace HC3 := Aside0.mk (Kd.C_below HC3.out hbx)
       replace HF0 := Aside0.mk (Kd.C_below HF0.out hbx)
       replace HF1 := Aside0.mk (Kd.C_below HF1.out hbx)
       replace HF2 := Aside0.mk (Kd.C_below HF2.out hbx)
       replace HF3 := Aside0.mk (Kd.C_below HF3.out hbx)
       replace HO := Aside0.mk (Kd.C_below HO.out hbx)
       replace HPB := Aside0.mk (blk_below HPB.out hbx)
       replace rf0 := (hbx.cell (World.block_lt_of_cell? _ _ rf0)).trans rf0
       replace rf1 := (hbx.cell (World.block_lt_of_cell? _ _ rf1)).trans rf1
       replace rf2 := (hbx.cell (World.block_lt_of_cell? _ _ rf2)).trans rf2
       replace rf3 := (hbx.cell (World.block_lt_of_cell? _ _ rf3)).trans rf3
       have HRB := Aside0.mk (blk_below (blk_alloc (blk_new w5 (.cells #[.slice (some ⟨gf, 0, none⟩) 2 kf, .slice (some ⟨gs, 0, none⟩) 2 ks, .slice (some ⟨go, 0, none⟩) 5 ko] 50)) (.cells #[.int .i64 0, .int .i64 2, .int .i64 3] 3)) hb)
       have rc0 : w6.cell? ⟨w5.heap.size, 0, none⟩ = some (.slice (some ⟨gf, 0, none⟩) 2 kf) := (blk_cell HRB.out 0).trans rfl
       have rc1 : w6.cell? ⟨w5.heap.size, 1, none⟩ = some (.slice (some ⟨gs, 0, none⟩) 2 ks) := (blk_cell HRB.out 1).trans rfl
       have rc2 : w6.cell? ⟨w5.heap.size, 2, none⟩ = some (.slice (some ⟨go, 0, none⟩) 5 ko) := (blk_cell HRB.out 2).trans rfl
       have rl := blk_lt HRB.out
       have pc0 : w6.cell? ⟨w1.heap.size, 0, none⟩ = some (.slice (some ⟨g0, 0, none⟩) 2 k0) := (blk_cell HPB.out 0).trans rfl
       have pc1 : w6.cell? ⟨w1.heap.size, 1, none⟩ = some (.slice (some ⟨g1, 0, none⟩) 3 k1) := (blk_cell HPB.out 1).trans rfl
       have pc2 : w6.cell? ⟨w1.heap.size, 2, none⟩ = some (.slice (some ⟨g2, 0, none⟩) 2 k2) := (blk_cell HPB.out 2).trans rfl
       have pc3 : w6.cell? ⟨w1.heap.size, 3, none⟩ = some (.slice (some ⟨g3, 0, none⟩) 2 k3) := (blk_cell HPB.out 3).trans rfl
       have pl := blk_lt HPB.out
       have rf0l := World.block_lt_of_cell? _ _ rf0
       have rf1l := World.block_lt_of_cell? _ _ rf1
       have rf2l := World.block_lt_of_cell? _ _ rf2
       have rf3l := World.block_lt_of_cell? _ _ rf3
       clear hb hbx)
    | ((with_reducible refine gate_dst (N := 111) rfl ?_); go_must (refine gate_guard (by first | rfl | go_simp) ?_; dsimp only; refine goesL_ (some 111) rfl rfl Try.func21 (by kernel_rfl) rfl #[.slice F1 2 m1, .slice (some ⟨w6.heap.size, 0, none⟩) 2 2] rfl (by (try simp only [List.map_toArray, List.map_cons, List.map_nil]); first | done | rfl) ?_; refine (same_calls F1 m1 [1, 4] (some ⟨w6.heap.size, 0, none⟩) 2 [1, 4] (w6.alloc (.cells #[.int .i64 1, .int .i64 4] 3)) (Kd.C_below HF1.out (by repeat (first | (with_reducible exact Below.refl _ _) | apply below_alloc))) (by first | assumption | omega) (C_ints _ (by decide) (by have := blk_new w6 (.cells #[.int .i64 1, .int .i64 4] 3); (try simp only [World.size_alloc] at this); exact this) rfl) (by decide) aw_same5).mono ?_)
       rintro e w7 ⟨rfl, hb⟩
       refine ⟨_, rfl, ?_⟩
       clear pc0 pc1 pc2 pc3 pl rc0 rc1 rc2 rl rf0l rf1l rf2l rf3l
       have hbx : Below w6.heap.size w6 w7 := below_step (by repeat (first | (with_reducible exact Below.refl _ _) | apply below_alloc)) hb
       replace HB := Aside0.mk (below_then HB.out HB.out.size hbx)
       replace HC0 := Aside0.mk (Kd.C_below HC0.out hbx)
       replace HC1 := Aside0.mk (Kd.C_below HC1.out hbx)
       replace HC2 := Aside0.mk (Kd.C_below HC2.out hbx)
       replace HC3 := Aside0.mk (Kd.C_below HC3.out hbx)
       replace HF0 := Aside0.mk (Kd.C_below HF0.out hbx)
       replace HF1 := Aside0.mk (Kd.C_below HF1.out hbx)
       replace HF2 := Aside0.mk (Kd.C_below HF2.out hbx)
       replace HF3 := Aside0.mk (Kd.C_below HF3.out hbx)
       replace HO := Aside0.mk (Kd.C_below HO.out hbx)
       replace HPB := Aside0.mk (blk_below HPB.out hbx)
       replace HRB := Aside0.mk (blk_below HRB.out hbx)
       replace rf0 := (hbx.cell (World.block_lt_of_cell? _ _ rf0)).trans rf0
       replace rf1 := (hbx.cell (World.block_lt_of_cell? _ _ rf1)).trans rf1
       replace rf2 := (hbx.cell (World.block_lt_of_cell? _ _ rf2)).trans rf2
       replace rf3 := (hbx.cell (World.block_lt_of_cell? _ _ rf3)).trans rf3
       have pc0 : w7.cell? ⟨w1.heap.size, 0, none⟩ = some (.slice (some ⟨g0, 0, none⟩) 2 k0) := (blk_cell HPB.out 0).trans rfl
       have pc1 : w7.cell? ⟨w1.heap.size, 1, none⟩ = some (.slice (some ⟨g1, 0, none⟩) 3 k1) := (blk_cell HPB.out 1).trans rfl
       have pc2 : w7.cell? ⟨w1.heap.size, 2, none⟩ = some (.slice (some ⟨g2, 0, none⟩) 2 k2) := (blk_cell HPB.out 2).trans rfl
       have pc3 : w7.cell? ⟨w1.heap.size, 3, none⟩ = some (.slice (some ⟨g3, 0, none⟩) 2 k3) := (blk_cell HPB.out 3).trans rfl
       have pl := blk_lt HPB.out
       have rc0 : w7.cell? ⟨w5.heap.size, 0, none⟩ = some (.slice (some ⟨gf, 0, none⟩) 2 kf) := (blk_cell HRB.out 0).trans rfl
       have rc1 : w7.cell? ⟨w5.heap.size, 1, none⟩ = some (.slice (some ⟨gs, 0, none⟩) 2 ks) := (blk_cell HRB.out 1).trans rfl
       have rc2 : w7.cell? ⟨w5.heap.size, 2, none⟩ = some (.slice (some ⟨go, 0, none⟩) 5 ko) := (blk_cell HRB.out 2).trans rfl
       have rl := blk_lt HRB.out
       have rf0l := World.block_lt_of_cell? _ _ rf0
       have rf1l := World.block_lt_of_cell? _ _ rf1
       have rf2l := World.block_lt_of_cell? _ _ rf2
       have rf3l := World.block_lt_of_cell? _ _ rf3
       clear hb hbx)
    | ((with_reducible refine gate_dst (N := 120) rfl ?_); go_must (refine gate_guard (by first | rfl | go_simp) ?_; dsimp only; refine goesL_ (some 120) rfl rfl Try.func21 (by kernel_rfl) rfl #[.slice F2 3 m2, .slice (some ⟨w7.heap.size, 0, none⟩) 3 3] rfl (by (try simp only [List.map_toArray, List.map_cons, List.map_nil]); first | done | rfl) ?_; refine (same_calls F2 m2 [2, 1, 4] (some ⟨w7.heap.size, 0, none⟩) 3 [2, 1, 4] (w7.alloc (.cells #[.int .i64 2, .int .i64 1, .int .i64 4] 3)) (Kd.C_below HF2.out (by repeat (first | (with_reducible exact Below.refl _ _) | apply below_alloc))) (by first | assumption | omega) (C_ints _ (by decide) (by have := blk_new w7 (.cells #[.int .i64 2, .int .i64 1, .int .i64 4] 3); (try simp only [World.size_alloc] at this); exact this) rfl) (by decide) aw_same6).mono ?_)
       rintro e w8 ⟨rfl, hb⟩
       refine ⟨_, rfl, ?_⟩
       clear pc0 pc1 pc2 pc3 pl rc0 rc1 rc2 rl rf0l rf1l rf2l rf3l
       have hbx : Below w7.heap.size w7 w8 := below_step (by repeat (first | (with_reducible exact Below.refl _ _) | apply below_alloc)) hb
       replace HB := Aside0.mk (below_then HB.out HB.out.size hbx)
       replace HC0 := Aside0.mk (Kd.C_below HC0.out hbx)
       replace HC1 := Aside0.mk (Kd.C_below HC1.out hbx)
       replace HC2 := Aside0.mk (Kd.C_below HC2.out hbx)
       replace HC3 := Aside0.mk (Kd.C_below HC3.out hbx)
       replace HF0 := Aside0.mk (Kd.C_below HF0.out hbx)
       replace HF1 := Aside0.mk (Kd.C_below HF1.out hbx)
       replace HF2 := Aside0.mk (Kd.C_below HF2.out hbx)
       replace HF3 := Aside0.mk (Kd.C_below HF3.out hbx)
       replace HO := Aside0.mk (Kd.C_below HO.out hbx)
       replace HPB := Aside0.mk (blk_below HPB.out hbx)
       replace HRB := Aside0.mk (blk_below HRB.out hbx)
       replace rf0 := (hbx.cell (World.block_lt_of_cell? _ _ rf0)).trans rf0
       replace rf1 := (hbx.cell (World.block_lt_of_cell? _ _ rf1)).trans rf1
       replace rf2 := (hbx.cell (World.block_lt_of_cell? _ _ rf2)).trans rf2
       replace rf3 := (hbx.cell (World.block_lt_of_cell? _ _ rf3)).trans rf3
       have pc0 : w8.cell? ⟨w1.heap.size, 0, none⟩ = some (.slice (some ⟨g0, 0, none⟩) 2 k0) := (blk_cell HPB.out 0).trans rfl
       have pc1 : w8.cell? ⟨w1.heap.size, 1, none⟩ = some (.slice (some ⟨g1, 0, none⟩) 3 k1) := (blk_cell HPB.out 1).trans rfl
       have pc2 : w8.cell? ⟨w1.heap.size, 2, none⟩ = some (.slice (some ⟨g2, 0, none⟩) 2 k2) := (blk_cell HPB.out 2).trans rfl
       have pc3 : w8.cell? ⟨w1.heap.size, 3, none⟩ = some (.slice (some ⟨g3, 0, none⟩) 2 k3) := (blk_cell HPB.out 3).trans rfl
       have pl := blk_lt HPB.out
       have rc0 : w8.cell? ⟨w5.heap.size, 0, none⟩ = some (.slice (some ⟨gf, 0, none⟩) 2 kf) := (blk_cell HRB.out 0).trans rfl
       have rc1 : w8.cell? ⟨w5.heap.size, 1, none⟩ = some (.slice (some ⟨gs, 0, none⟩) 2 ks) := (blk_cell HRB.out 1).trans rfl
       have rc2 : w8.cell? ⟨w5.heap.size, 2, none⟩ = some (.slice (some ⟨go, 0, none⟩) 5 ko) := (blk_cell HRB.out 2).trans rfl
       have rl := blk_lt HRB.out
       have rf0l := World.block_lt_of_cell? _ _ rf0
       have rf1l := World.block_lt_of_cell? _ _ rf1
       have rf2l := World.block_lt_of_cell? _ _ rf2
       have rf3l := World.block_lt_of_cell? _ _ rf3
       clear hb hbx)
    | ((with_reducible refine gate_dst (N := 129) rfl ?_); go_must (refine gate_guard (by first | rfl | go_simp) ?_; dsimp only; refine goesL_ (some 129) rfl rfl Try.func21 (by kernel_rfl) rfl #[.slice F3 2 m3, .slice (some ⟨w8.heap.size, 0, none⟩) 2 2] rfl (by (try simp only [List.map_toArray, List.map_cons, List.map_nil]); first | done | rfl) ?_; refine (same_calls F3 m3 [0, 3] (some ⟨w8.heap.size, 0, none⟩) 2 [0, 3] (w8.alloc (.cells #[.int .i64 0, .int .i64 3] 3)) (Kd.C_below HF3.out (by repeat (first | (with_reducible exact Below.refl _ _) | apply below_alloc))) (by first | assumption | omega) (C_ints _ (by decide) (by have := blk_new w8 (.cells #[.int .i64 0, .int .i64 3] 3); (try simp only [World.size_alloc] at this); exact this) rfl) (by decide) aw_same7).mono ?_)
       rintro e w9 ⟨rfl, hb⟩
       refine ⟨_, rfl, ?_⟩
       clear pc0 pc1 pc2 pc3 pl rc0 rc1 rc2 rl rf0l rf1l rf2l rf3l
       have hbx : Below w8.heap.size w8 w9 := below_step (by repeat (first | (with_reducible exact Below.refl _ _) | apply below_alloc)) hb
       replace HB := Aside0.mk (below_then HB.out HB.out.size hbx)
       replace HC0 := Aside0.mk (Kd.C_below HC0.out hbx)
       replace HC1 := Aside0.mk (Kd.C_below HC1.out hbx)
       replace HC2 := Aside0.mk (Kd.C_below HC2.out hbx)
       replace HC3 := Aside0.mk (Kd.C_below HC3.out hbx)
       replace HF0 := Aside0.mk (Kd.C_below HF0.out hbx)
       replace HF1 := Aside0.mk (Kd.C_below HF1.out hbx)
       replace HF2 := Aside0.mk (Kd.C_below HF2.out hbx)
       replace HF3 := Aside0.mk (Kd.C_below HF3.out hbx)
       replace HO := Aside0.mk (Kd.C_below HO.out hbx)
       replace HPB := Aside0.mk (blk_below HPB.out hbx)
       replace HRB := Aside0.mk (blk_below HRB.out hbx)
       replace rf0 := (hbx.cell (World.block_lt_of_cell? _ _ rf0)).trans rf0
       replace rf1 := (hbx.cell (World.block_lt_of_cell? _ _ rf1)).trans rf1
       replace rf2 := (hbx.cell (World.block_lt_of_cell? _ _ rf2)).trans rf2
       replace rf3 := (hbx.cell (World.block_lt_of_cell? _ _ rf3)).trans rf3
       have pc0 : w9.cell? ⟨w1.heap.size, 0, none⟩ = some (.slice (some ⟨g0, 0, none⟩) 2 k0) := (blk_cell HPB.out 0).trans rfl
       have pc1 : w9.cell? ⟨w1.heap.size, 1, none⟩ = some (.slice (some ⟨g1, 0, none⟩) 3 k1) := (blk_cell HPB.out 1).trans rfl
       have pc2 : w9.cell? ⟨w1.heap.size, 2, none⟩ = some (.slice (some ⟨g2, 0, none⟩) 2 k2) := (blk_cell HPB.out 2).trans rfl
       have pc3 : w9.cell? ⟨w1.heap.size, 3, none⟩ = some (.slice (some ⟨g3, 0, none⟩) 2 k3) := (blk_cell HPB.out 3).trans rfl
       have pl := blk_lt HPB.out
       have rc0 : w9.cell? ⟨w5.heap.size, 0, none⟩ = some (.slice (some ⟨gf, 0, none⟩) 2 kf) := (blk_cell HRB.out 0).trans rfl
       have rc1 : w9.cell? ⟨w5.heap.size, 1, none⟩ = some (.slice (some ⟨gs, 0, none⟩) 2 ks) := (blk_cell HRB.out 1).trans rfl
       have rc2 : w9.cell? ⟨w5.heap.size, 2, none⟩ = some (.slice (some ⟨go, 0, none⟩) 5 ko) := (blk_cell HRB.out 2).trans rfl
       have rl := blk_lt HRB.out
       have rf0l := World.block_lt_of_cell? _ _ rf0
       have rf1l := World.block_lt_of_cell? _ _ rf1
       have rf2l := World.block_lt_of_cell? _ _ rf2
       have rf3l := World.block_lt_of_cell? _ _ rf3
       clear hb hbx)
    | ((with_reducible refine gate_dst (N := 136) rfl ?_); go_must (refine gate_guard (by first | rfl | go_simp) ?_; dsimp only; refine goesL_ (some 136) rfl rfl Try.func21 (by kernel_rfl) rfl #[.slice (some ⟨go, 0, none⟩) 5 ko, .slice (some ⟨w9.heap.size, 0, none⟩) 5 5] rfl (by (try simp only [List.map_toArray, List.map_cons, List.map_nil]); first | done | rfl) ?_; refine (same_calls (some ⟨go, 0, none⟩) ko [2, 1, 4, 0, 3] (some ⟨w9.heap.size, 0, none⟩) 5 [2, 1, 4, 0, 3] (w9.alloc (.cells #[.int .i64 2, .int .i64 1, .int .i64 4, .int .i64 0, .int .i64 3] 3)) (Kd.C_below HO.out (by repeat (first | (with_reducible exact Below.refl _ _) | apply below_alloc))) (by first | assumption | omega) (C_ints _ (by decide) (by have := blk_new w9 (.cells #[.int .i64 2, .int .i64 1, .int .i64 4, .int .i64 0, .int .i64 3] 3); (try simp only [World.size_alloc] at this); exact this) rfl) (by decide) aw_same8).mono ?_)
       rintro e w10 ⟨rfl, hb⟩
       refine ⟨_, rfl, ?_⟩
       clear pc0 pc1 pc2 pc3 pl rc0 rc1 rc2 rl rf0l rf1l rf2l rf3l
       have hbx : Below w9.heap.size w9 w10 := below_step (by repeat (first | (with_reducible exact Below.refl _ _) | apply below_alloc)) hb
       replace HB := Aside0.mk (below_then HB.out HB.out.size hbx)
       replace HC0 := Aside0.mk (Kd.C_below HC0.out hbx)
       replace HC1 := Aside0.mk (Kd.C_below HC1.out hbx)
       replace HC2 := Aside0.mk (Kd.C_below HC2.out hbx)
       replace HC3 := Aside0.mk (Kd.C_below HC3.out hbx)
       replace HF0 := Aside0.mk (Kd.C_below HF0.out hbx)
       replace HF1 := Aside0.mk (Kd.C_below HF1.out hbx)
       replace HF2 := Aside0.mk (Kd.C_below HF2.out hbx)
       replace HF3 := Aside0.mk (Kd.C_below HF3.out hbx)
       replace HO := Aside0.mk (Kd.C_below HO.out hbx)
       replace HPB := Aside0.mk (blk_below HPB.out hbx)
       replace HRB := Aside0.mk (blk_below HRB.out hbx)
       replace rf0 := (hbx.cell (World.block_lt_of_cell? _ _ rf0)).trans rf0
       replace rf1 := (hbx.cell (World.block_lt_of_cell? _ _ rf1)).trans rf1
       replace rf2 := (hbx.cell (World.block_lt_of_cell? _ _ rf2)).trans rf2
       replace rf3 := (hbx.cell (World.block_lt_of_cell? _ _ rf3)).trans rf3
       have pc0 : w10.cell? ⟨w1.heap.size, 0, none⟩ = some (.slice (some ⟨g0, 0, none⟩) 2 k0) := (blk_cell HPB.out 0).trans rfl
       have pc1 : w10.cell? ⟨w1.heap.size, 1, none⟩ = some (.slice (some ⟨g1, 0, none⟩) 3 k1) := (blk_cell HPB.out 1).trans rfl
       have pc2 : w10.cell? ⟨w1.heap.size, 2, none⟩ = some (.slice (some ⟨g2, 0, none⟩) 2 k2) := (blk_cell HPB.out 2).trans rfl
       have pc3 : w10.cell? ⟨w1.heap.size, 3, none⟩ = some (.slice (some ⟨g3, 0, none⟩) 2 k3) := (blk_cell HPB.out 3).trans rfl
       have pl := blk_lt HPB.out
       have rc0 : w10.cell? ⟨w5.heap.size, 0, none⟩ = some (.slice (some ⟨gf, 0, none⟩) 2 kf) := (blk_cell HRB.out 0).trans rfl
       have rc1 : w10.cell? ⟨w5.heap.size, 1, none⟩ = some (.slice (some ⟨gs, 0, none⟩) 2 ks) := (blk_cell HRB.out 1).trans rfl
       have rc2 : w10.cell? ⟨w5.heap.size, 2, none⟩ = some (.slice (some ⟨go, 0, none⟩) 5 ko) := (blk_cell HRB.out 2).trans rfl
       have rl := blk_lt HRB.out
       have rf0l := World.block_lt_of_cell? _ _ rf0
       have rf1l := World.block_lt_of_cell? _ _ rf1
       have rf2l := World.block_lt_of_cell? _ _ rf2
       have rf3l := World.block_lt_of_cell? _ _ rf3
       clear hb hbx)
    | ((with_reducible refine gate_dst (N := 142) rfl ?_); go_must (refine goesL_ (some 142) rfl rfl Try.func23 (by kernel_rfl) rfl #[.agg #[.slice (some ⟨g0, 0, none⟩) 2 k0, .slice (some ⟨g1, 0, none⟩) 3 k1, .slice (some ⟨g2, 0, none⟩) 2 k2, .slice (some ⟨g3, 0, none⟩) 2 k3], .slice (some ⟨w10.heap.size, 0, none⟩) 1 1] rfl (by (try simp only [List.map_toArray, List.map_cons, List.map_nil]); first | done | rfl) ?_; refine (sequence_Sort.calls (some ⟨g0, 0, none⟩) k0 [5, 5] (some ⟨g1, 0, none⟩) k1 [⟨5, 2, 0, 0⟩, ⟨6, 2, 1, 0⟩, ⟨7, 3, 0, 1⟩] (some ⟨g2, 0, none⟩) k2 [5, 2] (some ⟨g3, 0, none⟩) k3 [4, 3] (some ⟨w10.heap.size, 0, none⟩) 1 [8] [] [] [] 6 (w10.alloc (.cells #[.int .i64 8] 3)) (Kd.C_below HC0.out (by repeat (first | (with_reducible exact Below.refl _ _) | apply below_alloc))) hk0 (Kd.C_below HC1.out (by repeat (first | (with_reducible exact Below.refl _ _) | apply below_alloc))) hk1 (Kd.C_below HC2.out (by repeat (first | (with_reducible exact Below.refl _ _) | apply below_alloc))) hk2 (Kd.C_below HC3.out (by repeat (first | (with_reducible exact Below.refl _ _) | apply below_alloc))) hk3 (C_ints _ (by decide) (by have := blk_new w10 (.cells #[.int .i64 8] 3); (try simp only [World.size_alloc] at this); exact this) rfl) (by decide) aw_sort2).mono ?_)
       rintro e w11 ⟨v0, v1, v2, rfl, ho0, ho1, ho2, hb⟩
       obtain ⟨Ea0, za0, rfl⟩ := Kd.S_slice ho0
       obtain ⟨Ea1, za1, rfl⟩ := Kd.S_slice ho1
       obtain ⟨Ea2, za2, rfl⟩ := Kd.R_slice ho2
       refine ⟨_, rfl, ?_⟩
       clear pc0 pc1 pc2 pc3 pl rc0 rc1 rc2 rl rf0l rf1l rf2l rf3l
       clear rf0 rf1 rf2 rf3 HF0 HF1 HF2 HF3 HO HRB
       have hbx : Below w10.heap.size w10 w11 := below_step (by repeat (first | (with_reducible exact Below.refl _ _) | apply below_alloc)) hb
       replace HB := Aside0.mk (below_then HB.out HB.out.size hbx)
       replace HC0 := Aside0.mk (Kd.C_below HC0.out hbx)
       replace HC1 := Aside0.mk (Kd.C_below HC1.out hbx)
       replace HC2 := Aside0.mk (Kd.C_below HC2.out hbx)
       replace HC3 := Aside0.mk (Kd.C_below HC3.out hbx)
       replace HPB := Aside0.mk (blk_below HPB.out hbx)
       have pc0 : w11.cell? ⟨w1.heap.size, 0, none⟩ = some (.slice (some ⟨g0, 0, none⟩) 2 k0) := (blk_cell HPB.out 0).trans rfl
       have pc1 : w11.cell? ⟨w1.heap.size, 1, none⟩ = some (.slice (some ⟨g1, 0, none⟩) 3 k1) := (blk_cell HPB.out 1).trans rfl
       have pc2 : w11.cell? ⟨w1.heap.size, 2, none⟩ = some (.slice (some ⟨g2, 0, none⟩) 2 k2) := (blk_cell HPB.out 2).trans rfl
       have pc3 : w11.cell? ⟨w1.heap.size, 3, none⟩ = some (.slice (some ⟨g3, 0, none⟩) 2 k3) := (blk_cell HPB.out 3).trans rfl
       have pl := blk_lt HPB.out
       clear hb hbx ho0 ho1 ho2)
    | ((with_reducible refine gate_dst (N := 148) rfl ?_); go_must (refine goesL_ (some 148) rfl rfl Try.func23 (by kernel_rfl) rfl #[.agg #[.slice (some ⟨g0, 0, none⟩) 2 k0, .slice (some ⟨g1, 0, none⟩) 3 k1, .slice (some ⟨g2, 0, none⟩) 2 k2, .slice (some ⟨g3, 0, none⟩) 2 k3], .slice (some ⟨w11.heap.size + 1, 0, none⟩) 3 3] rfl (by (try simp only [List.map_toArray, List.map_cons, List.map_nil]); first | done | rfl) ?_; refine (sequence_Sort.calls (some ⟨g0, 0, none⟩) k0 [5, 5] (some ⟨g1, 0, none⟩) k1 [⟨5, 2, 0, 0⟩, ⟨6, 2, 1, 0⟩, ⟨7, 3, 0, 1⟩] (some ⟨g2, 0, none⟩) k2 [5, 2] (some ⟨g3, 0, none⟩) k3 [4, 3] (some ⟨w11.heap.size + 1, 0, none⟩) 3 [5, 5, 5] [] [] [] 4 ((w11.alloc (.cells #[.slice Ea0 0 za0, .slice Ea1 0 za1, .slice Ea2 0 za2] 50)).alloc (.cells #[.int .i64 5, .int .i64 5, .int .i64 5] 3)) (Kd.C_below HC0.out (by repeat (first | (with_reducible exact Below.refl _ _) | apply below_alloc))) hk0 (Kd.C_below HC1.out (by repeat (first | (with_reducible exact Below.refl _ _) | apply below_alloc))) hk1 (Kd.C_below HC2.out (by repeat (first | (with_reducible exact Below.refl _ _) | apply below_alloc))) hk2 (Kd.C_below HC3.out (by repeat (first | (with_reducible exact Below.refl _ _) | apply below_alloc))) hk3 (C_ints _ (by decide) (by have := blk_new (w11.alloc (.cells #[.slice Ea0 0 za0, .slice Ea1 0 za1, .slice Ea2 0 za2] 50)) (.cells #[.int .i64 5, .int .i64 5, .int .i64 5] 3); (try simp only [World.size_alloc] at this); exact this) rfl) (by decide) aw_sort3).mono ?_)
       rintro e w12 ⟨v0, v1, v2, rfl, ho0, ho1, ho2, hb⟩
       obtain ⟨Eb0, zb0, rfl⟩ := Kd.S_slice ho0
       obtain ⟨Eb1, zb1, rfl⟩ := Kd.S_slice ho1
       obtain ⟨Eb2, zb2, rfl⟩ := Kd.R_slice ho2
       refine ⟨_, rfl, ?_⟩
       clear pc0 pc1 pc2 pc3 pl
       have hbx : Below w11.heap.size w11 w12 := below_step (by repeat (first | (with_reducible exact Below.refl _ _) | apply below_alloc)) hb
       replace HB := Aside0.mk (below_then HB.out HB.out.size hbx)
       replace HC0 := Aside0.mk (Kd.C_below HC0.out hbx)
       replace HC1 := Aside0.mk (Kd.C_below HC1.out hbx)
       replace HC2 := Aside0.mk (Kd.C_below HC2.out hbx)
       replace HC3 := Aside0.mk (Kd.C_below HC3.out hbx)
       replace HPB := Aside0.mk (blk_below HPB.out hbx)
       have pc0 : w12.cell? ⟨w1.heap.size, 0, none⟩ = some (.slice (some ⟨g0, 0, none⟩) 2 k0) := (blk_cell HPB.out 0).trans rfl
       have pc1 : w12.cell? ⟨w1.heap.size, 1, none⟩ = some (.slice (some ⟨g1, 0, none⟩) 3 k1) := (blk_cell HPB.out 1).trans rfl
       have pc2 : w12.cell? ⟨w1.heap.size, 2, none⟩ = some (.slice (some ⟨g2, 0, none⟩) 2 k2) := (blk_cell HPB.out 2).trans rfl
       have pc3 : w12.cell? ⟨w1.heap.size, 3, none⟩ = some (.slice (some ⟨g3, 0, none⟩) 2 k3) := (blk_cell HPB.out 3).trans rfl
       have pl := blk_lt HPB.out
       clear hb hbx ho0 ho1 ho2)
    | ((with_reducible refine gate_dst (N := 157) rfl ?_); go_must (refine goesL_ (some 157) rfl rfl Try.func16 (by kernel_rfl) rfl #[.slice (some ⟨w12.heap.size + 1, 0, none⟩) 3 3, .slice (some ⟨w12.heap.size + 1 + 1, 0, none⟩) 2 2] rfl (by (try simp only [List.map_toArray, List.map_cons, List.map_nil]); first | done | rfl) ?_; refine (sequence_Make.calls (some ⟨w12.heap.size + 1, 0, none⟩) 3 [⟨1, 3⟩, ⟨2, 3⟩, ⟨3, 3⟩] (some ⟨w12.heap.size + 1 + 1, 0, none⟩) 2 [5, 5] [] [] [] [] 4 (((w12.alloc (.cells #[.slice Eb0 0 zb0, .slice Eb1 0 zb1, .slice Eb2 0 zb2] 50)).alloc (.cells #[.int .i64 1, .int .i64 3, .int .i64 2, .int .i64 3, .int .i64 3, .int .i64 3] 27)).alloc (.cells #[.int .i64 5, .int .i64 5] 3)) (C_stops _ (by decide) (blk_alloc (by have := blk_new (w12.alloc (.cells #[.slice Eb0 0 zb0, .slice Eb1 0 zb1, .slice Eb2 0 zb2] 50)) (.cells #[.int .i64 1, .int .i64 3, .int .i64 2, .int .i64 3, .int .i64 3, .int .i64 3] 27); (try simp only [World.size_alloc] at this); exact this) _) rfl) (by decide) (C_ints _ (by decide) (by have := blk_new ((w12.alloc (.cells #[.slice Eb0 0 zb0, .slice Eb1 0 zb1, .slice Eb2 0 zb2] 50)).alloc (.cells #[.int .i64 1, .int .i64 3, .int .i64 2, .int .i64 3, .int .i64 3, .int .i64 3] 27)) (.cells #[.int .i64 5, .int .i64 5] 3); (try simp only [World.size_alloc] at this); exact this) rfl) (by decide) aw_make2).mono ?_)
       rintro e w13 ⟨v0, v1, v2, v3, rfl, ho0, ho1, ho2, ho3, hb⟩
       obtain ⟨Ec0, zc0, rfl⟩ := Kd.R_slice ho0
       obtain ⟨Ec1, zc1, rfl⟩ := Kd.R_slice ho1
       obtain ⟨Ec2, zc2, rfl⟩ := Kd.R_slice ho2
       obtain ⟨Ec3, zc3, rfl⟩ := Kd.R_slice ho3
       refine ⟨_, rfl, ?_⟩
       clear pc0 pc1 pc2 pc3 pl
       have hbx : Below w12.heap.size w12 w13 := below_step (by repeat (first | (with_reducible exact Below.refl _ _) | apply below_alloc)) hb
       replace HB := Aside0.mk (below_then HB.out HB.out.size hbx)
       replace HC0 := Aside0.mk (Kd.C_below HC0.out hbx)
       replace HC1 := Aside0.mk (Kd.C_below HC1.out hbx)
       replace HC2 := Aside0.mk (Kd.C_below HC2.out hbx)
       replace HC3 := Aside0.mk (Kd.C_below HC3.out hbx)
       replace HPB := Aside0.mk (blk_below HPB.out hbx)
       have pc0 : w13.cell? ⟨w1.heap.size, 0, none⟩ = some (.slice (some ⟨g0, 0, none⟩) 2 k0) := (blk_cell HPB.out 0).trans rfl
       have pc1 : w13.cell? ⟨w1.heap.size, 1, none⟩ = some (.slice (some ⟨g1, 0, none⟩) 3 k1) := (blk_cell HPB.out 1).trans rfl
       have pc2 : w13.cell? ⟨w1.heap.size, 2, none⟩ = some (.slice (some ⟨g2, 0, none⟩) 2 k2) := (blk_cell HPB.out 2).trans rfl
       have pc3 : w13.cell? ⟨w1.heap.size, 3, none⟩ = some (.slice (some ⟨g3, 0, none⟩) 2 k3) := (blk_cell HPB.out 3).trans rfl
       have pl := blk_lt HPB.out
       clear hb hbx ho0 ho1 ho2 ho3)
    | ((with_reducible refine gate_dst (N := 168) rfl ?_); go_must (refine goesL_ (some 168) rfl rfl Try.func16 (by kernel_rfl) rfl #[.slice (some ⟨w13.heap.size + 1, 0, none⟩) 5 5, .slice (some ⟨w13.heap.size + 1 + 1, 0, none⟩) 2 2] rfl (by (try simp only [List.map_toArray, List.map_cons, List.map_nil]); first | done | rfl) ?_; refine (sequence_Make.calls (some ⟨w13.heap.size + 1, 0, none⟩) 5 [⟨1, 1⟩, ⟨2, 1⟩, ⟨3, 1⟩, ⟨4, 1⟩, ⟨5, 1⟩] (some ⟨w13.heap.size + 1 + 1, 0, none⟩) 2 [9, 9] [] [] [] [] 4 (((w13.alloc (.cells #[.slice Ec0 0 zc0, .slice Ec1 0 zc1, .slice Ec2 0 zc2, .slice Ec3 0 zc3] 38)).alloc (.cells #[.int .i64 1, .int .i64 1, .int .i64 2, .int .i64 1, .int .i64 3, .int .i64 1, .int .i64 4, .int .i64 1, .int .i64 5, .int .i64 1] 27)).alloc (.cells #[.int .i64 9, .int .i64 9] 3)) (C_stops _ (by decide) (blk_alloc (by have := blk_new (w13.alloc (.cells #[.slice Ec0 0 zc0, .slice Ec1 0 zc1, .slice Ec2 0 zc2, .slice Ec3 0 zc3] 38)) (.cells #[.int .i64 1, .int .i64 1, .int .i64 2, .int .i64 1, .int .i64 3, .int .i64 1, .int .i64 4, .int .i64 1, .int .i64 5, .int .i64 1] 27); (try simp only [World.size_alloc] at this); exact this) _) rfl) (by decide) (C_ints _ (by decide) (by have := blk_new ((w13.alloc (.cells #[.slice Ec0 0 zc0, .slice Ec1 0 zc1, .slice Ec2 0 zc2, .slice Ec3 0 zc3] 38)).alloc (.cells #[.int .i64 1, .int .i64 1, .int .i64 2, .int .i64 1, .int .i64 3, .int .i64 1, .int .i64 4, .int .i64 1, .int .i64 5, .int .i64 1] 27)) (.cells #[.int .i64 9, .int .i64 9] 3); (try simp only [World.size_alloc] at this); exact this) rfl) (by decide) aw_make3).mono ?_)
       rintro e w14 ⟨v0, v1, v2, v3, rfl, ho0, ho1, ho2, ho3, hb⟩
       obtain ⟨Ed0, zd0, rfl⟩ := Kd.R_slice ho0
       obtain ⟨Ed1, zd1, rfl⟩ := Kd.R_slice ho1
       obtain ⟨Ed2, zd2, rfl⟩ := Kd.R_slice ho2
       obtain ⟨Ed3, zd3, rfl⟩ := Kd.R_slice ho3
       refine ⟨_, rfl, ?_⟩
       clear pc0 pc1 pc2 pc3 pl
       have hbx : Below w13.heap.size w13 w14 := below_step (by repeat (first | (with_reducible exact Below.refl _ _) | apply below_alloc)) hb
       replace HB := Aside0.mk (below_then HB.out HB.out.size hbx)
       replace HC0 := Aside0.mk (Kd.C_below HC0.out hbx)
       replace HC1 := Aside0.mk (Kd.C_below HC1.out hbx)
       replace HC2 := Aside0.mk (Kd.C_below HC2.out hbx)
       replace HC3 := Aside0.mk (Kd.C_below HC3.out hbx)
       replace HPB := Aside0.mk (blk_below HPB.out hbx)
       have pc0 : w14.cell? ⟨w1.heap.size, 0, none⟩ = some (.slice (some ⟨g0, 0, none⟩) 2 k0) := (blk_cell HPB.out 0).trans rfl
       have pc1 : w14.cell? ⟨w1.heap.size, 1, none⟩ = some (.slice (some ⟨g1, 0, none⟩) 3 k1) := (blk_cell HPB.out 1).trans rfl
       have pc2 : w14.cell? ⟨w1.heap.size, 2, none⟩ = some (.slice (some ⟨g2, 0, none⟩) 2 k2) := (blk_cell HPB.out 2).trans rfl
       have pc3 : w14.cell? ⟨w1.heap.size, 3, none⟩ = some (.slice (some ⟨g3, 0, none⟩) 2 k3) := (blk_cell HPB.out 3).trans rfl
       have pl := blk_lt HPB.out
       clear hb hbx ho0 ho1 ho2 ho3)
    | ((with_reducible refine gate_dst (N := 173) rfl ?_); go_must (refine goesL_ (some 173) rfl rfl Try.func25 (by kernel_rfl) rfl #[.agg #[.slice (some ⟨g0, 0, none⟩) 2 k0, .slice (some ⟨g1, 0, none⟩) 3 k1, .slice (some ⟨g2, 0, none⟩) 2 k2, .slice (some ⟨g3, 0, none⟩) 2 k3]] rfl (by (try simp only [List.map_toArray, List.map_cons, List.map_nil]); first | done | rfl) ?_; refine (sequence_Check.calls (some ⟨g0, 0, none⟩) k0 [5, 5] (some ⟨g1, 0, none⟩) k1 [⟨5, 2, 0, 0⟩, ⟨6, 2, 1, 0⟩, ⟨7, 3, 0, 1⟩] (some ⟨g2, 0, none⟩) k2 [5, 2] (some ⟨g3, 0, none⟩) k3 [4, 3] 0 0 (w14.alloc (.cells #[.slice Ed0 0 zd0, .slice Ed1 0 zd1, .slice Ed2 0 zd2, .slice Ed3 0 zd3] 38)) (Kd.C_below HC0.out (by repeat (first | (with_reducible exact Below.refl _ _) | apply below_alloc))) hk0 (Kd.C_below HC1.out (by repeat (first | (with_reducible exact Below.refl _ _) | apply below_alloc))) hk1 (Kd.C_below HC2.out (by repeat (first | (with_reducible exact Below.refl _ _) | apply below_alloc))) hk2 (Kd.C_below HC3.out (by repeat (first | (with_reducible exact Below.refl _ _) | apply below_alloc))) hk3 aw_check).mono ?_)
       rintro e w15 ⟨rfl, hb⟩
       refine ⟨_, rfl, ?_⟩
       clear pc0 pc1 pc2 pc3 pl
       have hbx : Below w14.heap.size w14 w15 := below_step (by repeat (first | (with_reducible exact Below.refl _ _) | apply below_alloc)) hb
       replace HB := Aside0.mk (below_then HB.out HB.out.size hbx)
       replace HC0 := Aside0.mk (Kd.C_below HC0.out hbx)
       replace HC1 := Aside0.mk (Kd.C_below HC1.out hbx)
       replace HC2 := Aside0.mk (Kd.C_below HC2.out hbx)
       replace HC3 := Aside0.mk (Kd.C_below HC3.out hbx)
       replace HPB := Aside0.mk (blk_below HPB.out hbx)
       have pc0 : w15.cell? ⟨w1.heap.size, 0, none⟩ = some (.slice (some ⟨g0, 0, none⟩) 2 k0) := (blk_cell HPB.out 0).trans rfl
       have pc1 : w15.cell? ⟨w1.heap.size, 1, none⟩ = some (.slice (some ⟨g1, 0, none⟩) 3 k1) := (blk_cell HPB.out 1).trans rfl
       have pc2 : w15.cell? ⟨w1.heap.size, 2, none⟩ = some (.slice (some ⟨g2, 0, none⟩) 2 k2) := (blk_cell HPB.out 2).trans rfl
       have pc3 : w15.cell? ⟨w1.heap.size, 3, none⟩ = some (.slice (some ⟨g3, 0, none⟩) 2 k3) := (blk_cell HPB.out 3).trans rfl
       have pl := blk_lt HPB.out
       clear hb hbx)
    | go_in)
  go_ret
  exact ⟨rfl, HB.out⟩
end Go.Proofs.Ytbhcchcjmgfpiaa.Print
