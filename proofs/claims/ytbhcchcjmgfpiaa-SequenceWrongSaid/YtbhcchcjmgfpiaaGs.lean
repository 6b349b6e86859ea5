/- The contract of sequence.Sort: the runs of items through both passes, or the first error. By hand, in the printed contracts' form. -/
import Derived.Test.YtbhcchcjmgfpiaaGsp
import Derived.Test.YtbhcchcjmgfpiaaGc
import Derived.Test.YtbhcchcjmgfpiaaGf
import Derived.Deep.DeepMust
namespace Go.Proofs.Ytbhcchcjmgfpiaa.Print
open Go.RowKit Go.Proofs.YtbhcchcjmgfpiaaW.PrintWords Go.Proofs.YtbhcchcjmgfpiaaW.PrintLast Go.Proofs.YtbhcchcjmgfpiaaW.PrintMore
open Go.Maps (Keyed int_keyed keyOf_int_mk)
set_option linter.unusedVariables false
set_option linter.unusedSimpArgs false

theorem three_put {w : World} {g : Nat} {t : TypeId} {a0 a1 a2 : Value} (h : w.heap[g]? = some (.cells #[a0, a1, a2] t (0, 0))) (x0 x1 x2 : Value) :
    (((w.setCell ⟨g, 0, none⟩ x0).setCell ⟨g, 1, none⟩ x1).setCell ⟨g, 2, none⟩ x2).heap[g]? = some (.cells #[x0, x1, x2] t (0, 0)) :=
  blk_put (cs := #[x0, x1, a2]) (blk_put (cs := #[x0, a1, a2]) (blk_put h 0 x0 rfl) 1 x1 rfl) 2 x2 rfl
theorem three_below {B : Nat} {w W : World} {g : Nat} (h : Below B w W) (hg : B ≤ g) (x0 x1 x2 : Value) :
    Below B w (((W.setCell ⟨g, 0, none⟩ x0).setCell ⟨g, 1, none⟩ x1).setCell ⟨g, 2, none⟩ x2) := ((h.setCell hg x0).setCell hg x1).setCell hg x2
/-- What Sort's contract says. -/
def SortPost (w : World) (r1 r2 : List (List Int)) (r3 : List Int) (r4 : Int) (e : Ending) (w' : World) : Prop :=
  ∃ v0_ v1_ v2_ : Value, e = .returned (.tuple #[.agg #[v0_, v1_, v2_], .int .i64 r4]) ∧ Kd.S (Kd.slice 3 (Kd.int .i64)) 24 w' w.heap.size (fun k_ => some k_ ≠ (v1_ : Value).ownBlock ∧ some k_ ≠ (v2_ : Value).ownBlock) v0_ r1 ∧ Kd.S (Kd.slice 3 (Kd.int .i64)) 24 w' w.heap.size (fun k_ => some k_ ≠ (v0_ : Value).ownBlock ∧ some k_ ≠ (v2_ : Value).ownBlock) v1_ r2 ∧ Kd.R (Kd.int .i64) 3 w' w.heap.size (fun _ => True) v2_ r3 ∧ Below w.heap.size w w'
theorem sortPost_err {w W : World} {e : Int} {en : Ending} (h : Below w.heap.size w W) (he : en = .returned (.tuple #[.agg #[.slice none 0 0, .slice none 0 0, .slice none 0 0], .int .i64 e])) : SortPost w [] [] [] e en W :=
  ⟨_, _, _, he, Kd.S_nil _ _ _ _ _, Kd.S_nil _ _ _ _ _, Kd.R_nil _ _ _ _ _, h⟩
section
variable {w W W1 : World} {p0 p1 p2 p3 vi : Value} {M n n' : Nat} {D D' : DataW Unit}
theorem St.grown (h : St w p0 p1 p2 p3 vi M n D W) (hg : W.grownBy W1 (some (M + 1))) : St w p0 p1 p2 p3 vi M n D W1 := by
  have hM := h.hM
  have hs := h.size
  exact ⟨h.below.grown hg (by omega) (fun k hk => by cases hk; omega), blk_grown h.plan hg (fun e => by injection e with e; omega), blk_grown h.its hg (fun e => by injection e with e; omega), blk_grown h.res hg (fun e => by injection e with e; omega), blk_grown h.mc hg (fun e => by injection e with e; omega), h.own.kept hg (fun e => by injection e with e; omega), hM⟩
theorem St.put (h : St w p0 p1 p2 p3 vi M n D W) (hg : W.grownBy W1 (some M)) (ho : W1.ownsMap Try.prog 3 seatElem M n' D') : St w p0 p1 p2 p3 vi M n' D' W1 := by
  have hM := h.hM
  have hs := h.size
  exact ⟨h.below.grown hg (by omega) (fun k hk => by cases hk; omega), blk_grown h.plan hg (fun e => by injection e with e; omega), blk_grown h.its hg (fun e => by injection e with e; omega), blk_grown h.res hg (fun e => by injection e with e; omega), blk_grown h.mc hg (fun e => by injection e with e; omega), ho, hM⟩
theorem St.alloc (h : St w p0 p1 p2 p3 vi M n D W) (o : Obj) : St w p0 p1 p2 p3 vi M n D (W.alloc o) := h.low ((Below.refl _ _).alloc h.size o)
theorem own88_below {b : Nat} (h : W.ownsMap Try.prog 3 (plainElem Try.prog 3) (M + 1) n D) (hb : Below b W W1) (hM : M + 1 < b) : W1.ownsMap Try.prog 3 (plainElem Try.prog 3) (M + 1) n D := by
  obtain ⟨es, clock, h1, h2⟩ := h
  exact ⟨es, clock, (hb.block _ hM).trans h1, h2⟩
end
theorem places_nil (s : List S60) : PlacesAre (.map []) (placeOf []) := fun a => ⟨rfl, fun x hx => by cases hx⟩
theorem places_snoc {D : DataW Unit} {s : List S60} (hD : Maps.IsMap D) (h : PlacesAre D (placeOf s)) (x : S60) : PlacesAre (D.put (.int .i64 x.f0) (seatD x)) (placeOf (s ++ [x])) := by
  intro a
  rw [placeOf_snoc]
  by_cases e : x.f0 = a
  · subst e
    rw [Maps.has_put_same hD (by simp [WideAt.IsKeyLit]), if_pos rfl]
    refine ⟨rfl, fun y hy z => ?_⟩
    cases hy
    exact Maps.atKey_put_same hD (by simp [WideAt.IsKeyLit]) _ _
  · rw [Maps.has_put_other (by simpa using fun h => e h.symm), if_neg e, (h a).1]
    refine ⟨rfl, fun y hy z => ?_⟩
    rw [Maps.atKey_put_other (by simpa using fun h => e h.symm)]
    exact (h a).2 y hy z
def ManyAre (D : DataW Unit) (pre : List Int) : Prop := ∀ a : Int, D.atKey (.int .i64 a) (.lit (.int .i64 0)) = .lit (.int .i64 ((pre.count a : Nat) : Int))
theorem many_nil : ManyAre (.map []) [] := fun a => rfl
theorem many_snoc {D : DataW Unit} {pre : List Int} (hD : Maps.IsMap D) (h : ManyAre D pre) (a : Int) : ManyAre (D.put (.int .i64 a) (.lit (.int .i64 (((pre.count a : Nat) : Int) + 1)))) (pre ++ [a]) := by
  intro b
  by_cases e : b = a
  · subst e
    rw [Maps.atKey_put_same hD (by simp [WideAt.IsKeyLit])]
    simp
  · rw [Maps.atKey_put_other (by simpa using e), h b]
    rw [List.count_append, List.count_singleton, if_neg (by simpa using fun h => e h.symm), Nat.add_zero]
section
variable {w : World} {ops : Array Oper} {rest : List Oper} {o : Oper} {a : Act} {Q : Exit → Act → World → Prop} {M n : Nat} {D : DataW Unit} {s : List S60} {key : Int} {x : S60}
theorem look_ok_some (m k : Operand) (hg : o.guard = none) (hop : o.op = Op.lookup 87 m k true) (hm : a.eval m = .map (some M)) (hown : w.ownsMap Try.prog 3 seatElem M n D) (hp : PlacesAre D (placeOf s)) (hx : a.eval k = .int .i64 key) (hw : (Lit.int .i64 key).wf = true) (hf : placeOf s key = some x)
    (hK : wpList Try.prog ops Q rest (a.put o.dst (.tuple #[.agg #[.int .i64 x.f0, .int .i64 x.f1, .int .i64 x.f2, .int .i64 x.f3], .bool true])) w) : wpList Try.prog ops Q (o :: rest) a w := by
  refine wpList_lookup_own_ok w hg m k 87 hop 3 60 law3 Try.underlying87 seatElem (zero60 _) _ [] (seatElem_mk _) M n D hm hown _ _ hx (keyOf_int_mk Try.underlying3 hw) (fun v ps hv => ?_)
  rw [(hp key).2 x hf] at hv
  obtain ⟨y, rfl, hy⟩ := seatElem_inv hv
  rw [← seatD_inj (congrArg Prod.fst hy), (hp key).1, hf]
  exact hK
theorem look_ok_none (m k : Operand) (hg : o.guard = none) (hop : o.op = Op.lookup 87 m k true) (hm : a.eval m = .map (some M)) (hown : w.ownsMap Try.prog 3 seatElem M n D) (hp : PlacesAre D (placeOf s)) (hx : a.eval k = .int .i64 key) (hw : (Lit.int .i64 key).wf = true) (hf : placeOf s key = none)
    (hK : wpList Try.prog ops Q rest (a.put o.dst (.tuple #[.agg #[.int .i64 0, .int .i64 0, .int .i64 0, .int .i64 0], .bool false])) w) : wpList Try.prog ops Q (o :: rest) a w := by
  have hno : Maps.has D (.int .i64 key) = false := by rw [(hp key).1, hf]; rfl
  refine wpList_lookup_own_ok w hg m k 87 hop 3 60 law3 Try.underlying87 seatElem (zero60 _) _ [] (seatElem_mk _) M n D hm hown _ _ hx (keyOf_int_mk Try.underlying3 hw) (fun v ps hv => ?_)
  rw [Maps.atKey_of_not_has hno] at hv
  obtain ⟨y, rfl, hy⟩ := seatElem_inv hv
  rw [← seatD_inj (congrArg Prod.fst hy), hno]
  exact hK
theorem look_many (m k : Operand) (hg : o.guard = none) (hop : o.op = Op.lookup 88 m k false) (hm : a.eval m = .map (some M)) {R : List Int} (cn : Nat) (hcn : R.count key = cn) (hown : w.ownsMap Try.prog 3 (plainElem Try.prog 3) M n D) (hp : ManyAre D R) (hx : a.eval k = .int .i64 key) (hw : (Lit.int .i64 key).wf = true)
    (hK : wpList Try.prog ops Q rest (a.put o.dst (.int .i64 (cn : Int))) w) : wpList Try.prog ops Q (o :: rest) a w := by
  refine wpList_lookup_own_int w hg m k 88 hop 3 3 .i64 law3 Try.underlying88 Try.underlying3 (zero3 _) M n D hm hown _ _ hx (keyOf_int_mk Try.underlying3 hw) (fun c hat _ => ?_)
  rw [hp key] at hat
  injection hat with hat
  injection hat with _ hat
  rw [← hat, hcn]
  exact hK
end
theorem st_first {w W : World} {p0 p1 p2 p3 vi : Value} (hB : Below w.heap.size w W) (G0 : W.heap[w.heap.size]? = some (.cells #[p0, p1, p2, p3] 38 (0, 0))) (G1 : W.heap[w.heap.size + 1]? = some (.cells #[vi] 24 (0, 0)))
    (G2 : W.heap[w.heap.size + 1 + 1]? = some (.cells #[.slice none 0 0, .slice none 0 0, .slice none 0 0] 50 (0, 0))) :
    ∃ W4, (((W.alloc (.map #[] 0)).alloc (.map #[] 0)).alloc (.cells #[.map (some W.heap.size)] 87)) = W4 ∧ St w p0 p1 p2 p3 vi W.heap.size 0 (.map []) W4 ∧ W4.ownsMap Try.prog 3 (plainElem (H := Unit) Try.prog 3) (W.heap.size + 1) 0 (.map []) := by
  have hs := blk_lt G2
  refine ⟨_, rfl, ⟨((hB.alloc (by omega) _).alloc (by rw [World.size_alloc]; omega) _).alloc (by rw [World.size_alloc, World.size_alloc]; omega) _, blk_alloc (blk_alloc (blk_alloc G0 _) _) _, blk_alloc (blk_alloc (blk_alloc G1 _) _) _, blk_alloc (blk_alloc (blk_alloc G2 _) _) _, ?_, ((World.ownsMap_made W Try.prog 3 seatElem).alloc _).alloc _, by omega⟩, ?_⟩
  · have := blk_new ((W.alloc (.map #[] 0)).alloc (.map #[] 0)) (.cells #[.map (some W.heap.size)] 87)
    rwa [World.size_alloc, World.size_alloc] at this
  · have := World.ownsMap_made (H := Unit) (W.alloc (.map #[] 0)) Try.prog 3 (plainElem Try.prog 3)
    rw [World.size_alloc] at this
    exact this.alloc _
theorem sort_in (seats : List S60) (items : List Int) (n : Nat) (hsz : ∀ id ∈ items, ∃ x, placeOf seats id = some x) (hsi : seatsIn n seats = true) (i : Int) (h0 : 0 ≤ i) (h1 : i < items.length) :
    ∃ x, placeOf seats (rd items i) = some x ∧ (0 ≤ x.f2 ∧ x.f2 < n) ∧ (0 ≤ x.f3 ∧ x.f3 < n) := by
  have hm : rd items i ∈ items := by
    rw [rd, List.getD_eq_getElem?_getD, List.getElem?_eq_getElem (show i.toNat < items.length by omega)]
    exact List.getElem_mem _
  obtain ⟨x, hx⟩ := hsz _ hm
  have := List.all_eq_true.1 hsi x (placeOf_mem hx).1
  simp only [Bool.and_eq_true, decide_eq_true_eq] at this
  exact ⟨x, hx, ⟨this.1.1.1, this.1.1.2⟩, ⟨this.1.2, this.2⟩⟩
section
variable {α : Type} {d : Kd α} {e base g r : Nat} {W : World} {ok : Nat → Prop} {v : Value} {xs : List α}
theorem S_five (h : Kd.S d e W base ok v xs) (hg : ∀ k, ok k → k ≠ g) (hr : ∀ k, ok k → k ≠ r) (x y z1 z2 z3 : Value) :
    Kd.S d e (((((W.setCell ⟨g, 1, none⟩ x).setCell ⟨g, 2, none⟩ y).setCell ⟨r, 0, none⟩ z1).setCell ⟨r, 1, none⟩ z2).setCell ⟨r, 2, none⟩ z3) base ok v xs :=
  Kd.S_far (p := ⟨r, 2, none⟩) (Kd.S_far (p := ⟨r, 1, none⟩) (Kd.S_far (p := ⟨r, 0, none⟩) (Kd.S_far (p := ⟨g, 2, none⟩) (Kd.S_far (p := ⟨g, 1, none⟩) h hg _) hg _) hr _) hr _) hr _
theorem R_five (h : d.R e W base ok v xs) (hg : ∀ k, ok k → k ≠ g) (hr : ∀ k, ok k → k ≠ r) (x y z1 z2 z3 : Value) :
    d.R e (((((W.setCell ⟨g, 1, none⟩ x).setCell ⟨g, 2, none⟩ y).setCell ⟨r, 0, none⟩ z1).setCell ⟨r, 1, none⟩ z2).setCell ⟨r, 2, none⟩ z3) base ok v xs :=
  Kd.R_far (p := ⟨r, 2, none⟩) (Kd.R_far (p := ⟨r, 1, none⟩) (Kd.R_far (p := ⟨r, 0, none⟩) (Kd.R_far (p := ⟨g, 2, none⟩) (Kd.R_far (p := ⟨g, 1, none⟩) h hg _) hg _) hr _) hr _) hr _
end

set_option maxHeartbeats 8000000 in
set_option maxRecDepth 100000 in
theorem sort_walk (A0_0 : Option Addr) (c0_0 : Nat) (l0_0 : List Int) (A0_1 : Option Addr) (c0_1 : Nat) (l0_1 : List (S60)) (A0_2 : Option Addr) (c0_2 : Nat) (l0_2 : List Int) (A0_3 : Option Addr) (c0_3 : Nat) (l0_3 : List Int) (A1 : Option Addr) (c1 : Nat) (l1 : List Int) (r1 : List (List Int)) (r2 : List (List Int)) (r3 : List Int) (r4 : Int) (w : World) (hr0_0 : Kd.C (Kd.int .i64) w A0_0 l0_0.length l0_0) (hc0_0 : l0_0.length ≤ c0_0) (hr0_1 : Kd.C k60 w A0_1 l0_1.length l0_1) (hc0_1 : l0_1.length ≤ c0_1) (hr0_2 : Kd.C (Kd.int .i64) w A0_2 l0_2.length l0_2) (hc0_2 : l0_2.length ≤ c0_2) (hr0_3 : Kd.C (Kd.int .i64) w A0_3 l0_3.length l0_3) (hc0_3 : l0_3.length ≤ c0_3) (hr1 : Kd.C (Kd.int .i64) w A1 l1.length l1) (hc1 : l1.length ≤ c1)
    (hwf0 : ∀ x ∈ l0_1, (Lit.int .i64 x.f0).wf = true) (hwf1 : ∀ x ∈ l1, (Lit.int .i64 x).wf = true) (at_ e : Int) (hchk : sequence_Check.f l0_0 l0_1 l0_2 l0_3 = some (at_, e))
    (he1 : e ≠ 0 → r1 = [] ∧ r2 = [] ∧ r3 = [] ∧ r4 = e) (he2 : e = 0 → 2000 < l1.length → r1 = [] ∧ r2 = [] ∧ r3 = [] ∧ r4 = 5)
    (he3 : e = 0 → ¬ 2000 < l1.length → sortScan l0_1 [] l1 ≠ 0 → r1 = [] ∧ r2 = [] ∧ r3 = [] ∧ r4 = sortScan l0_1 [] l1)
    (he4 : e = 0 → ¬ 2000 < l1.length → sortScan l0_1 [] l1 = 0 → (0 < l0_0.length ∧ l0_0.length ≤ 100 ∧ seatsIn l0_0.length l0_1 = true) ∧ r1 = firstRows l0_0.length l0_1 l1 ∧ r2 = secondRows l0_0.length l0_1 l1 ∧ r3 = (secondRows l0_0.length l0_1 l1).flatten ∧ r4 = 0) :
    Calls Try.prog 23 #[.agg #[.slice A0_0 l0_0.length c0_0, .slice A0_1 l0_1.length c0_1, .slice A0_2 l0_2.length c0_2, .slice A0_3 l0_3.length c0_3], .slice A1 l1.length c1] w (SortPost w r1 r2 r3 r4) := by
  have hmax : l0_1.length ≤ 9223372036854775807 := hr0_1.2.1
  have HR0 := Aside0.mk hr0_0
  have HR1 := Aside0.mk hr0_1
  have HR2 := Aside0.mk hr0_2
  have HR3 := Aside0.mk hr0_3
  have HRI := Aside0.mk hr1
  have HWF0 := Aside0.mk hwf0
  have HWF1 := Aside0.mk hwf1
  have HCH := Aside0.mk hchk
  have HE1 := Aside0.mk he1
  have HE2 := Aside0.mk he2
  have HE3 := Aside0.mk he3
  have HE4 := Aside0.mk he4
  clear hr0_0 hr0_1 hr0_2 hr0_3 hr1 hwf0 hwf1 hchk he1 he2 he3 he4
  have hu60 := Try.underlying60
  have hu38 := Try.underlying38
  have hu50 := Try.underlying50
  have hmm := @run_makeMap Try.prog
  go_enter Try.func23, Try.ntmps23
  go_wp2_with fail
  obtain ⟨W0, hW, B0, B1, B2, BL⟩ := three_new w (.cells #[.slice A0_0 l0_0.length c0_0, .slice A0_1 l0_1.length c0_1, .slice A0_2 l0_2.length c0_2, .slice A0_3 l0_3.length c0_3] 38) (.cells #[.slice A1 l1.length c1] 24) (.cells #[.slice none 0 0, .slice none 0 0, .slice none 0 0] 50)
  rw [hW]
  clear hW
  refine (sequence_Check.calls A0_0 c0_0 l0_0 A0_1 c0_1 l0_1 A0_2 c0_2 l0_2 A0_3 c0_3 l0_3 at_ e W0 (Kd.C_below HR0.out BL) hc0_0 (Kd.C_below HR1.out BL) hc0_1 (Kd.C_below HR2.out BL) hc0_2 (Kd.C_below HR3.out BL) hc0_3 HCH.out).mono ?_
  rintro en W ⟨rfl, hb2⟩
  have G0 := Aside0.mk (blk_below B0 hb2)
  have G1 := Aside0.mk (blk_below B1 hb2)
  have G2 := Aside0.mk (blk_below B2 hb2)
  have HB := Aside0.mk (below_then BL BL.size hb2)
  clear B0 B1 B2 BL hb2 W0 HCH
  by_cases h0 : e = 0
  · subst h0
    by_cases h5 : 2000 < l1.length
    · have q0 : W.cell? ⟨w.heap.size + 1 + 1, 0, none⟩ = some (.slice none 0 0) := (blk_cell G2.out 0).trans rfl
      have q1 : W.cell? ⟨w.heap.size + 1 + 1, 1, none⟩ = some (.slice none 0 0) := (blk_cell G2.out 1).trans rfl
      have q2 : W.cell? ⟨w.heap.size + 1 + 1, 2, none⟩ = some (.slice none 0 0) := (blk_cell G2.out 2).trans rfl
      have f0 := blk_frozen G2.out 0
      have f1 := blk_frozen G2.out 1
      have f2 := blk_frozen G2.out 2
      have q3 : W.cell? ⟨w.heap.size + 1, 0, none⟩ = some (.slice A1 l1.length c1) := (blk_cell G1.out 0).trans rfl
      obtain ⟨rfl, rfl, rfl, rfl⟩ := HE2.out rfl h5
      clear HE1 HE2 HE3 HE4
      have h5i : (2000 : Int) < (l1.length : Int) := by omega
      go_wp2
      refine bodyPost_ret (results_list (rs := [.cell 4 50, .tmp 5]) rfl (by simp) (.cell (w.heap.size + 1 + 1) 50 _ (0, 0) _ rfl (three_put G2.out _ _ _) Try.underlying50 rfl (by kernel_rfl) (.tmp .nil))) rfl ?_
      exact sortPost_err (three_below HB.out (by omega) _ _ _) rfl
    · have HE3' := Aside0.mk (HE3.out rfl h5)
      have HE4' := Aside0.mk (HE4.out rfl h5)
      clear HE1 HE2 HE3 HE4
      have q3 : W.cell? ⟨w.heap.size + 1, 0, none⟩ = some (.slice A1 l1.length c1) := (blk_cell G1.out 0).trans rfl
      obtain ⟨W4, hW4, hSt, h88⟩ := st_first HB.out G0.out G1.out G2.out
      have q4 : (((W.alloc (.map #[] 0)).alloc (.map #[] 0)).alloc (.cells #[.map (some W.heap.size)] 87)).cell? ⟨w.heap.size, 1, none⟩ = some (.slice A0_1 l0_1.length c0_1) := by rw [hW4]; exact (blk_cell hSt.plan 1).trans rfl
      have HW4 := Aside0.mk hW4
      have HS4 := Aside0.mk hSt
      have H88 := Aside0.mk h88
      clear hW4 hSt h88
      have h5i : ¬ (2000 : Int) < (l1.length : Int) := by omega
      go_wp2
      rw [HW4.out]
      clear q3 q4 G0 G1 G2 HB HW4
      generalize W.heap.size = M at HS4 H88 ⊢
      clear W
      go_loopw [37] (fun i wr => ∃ (k : Nat) (D : DataW Unit), k ≤ l0_1.length ∧ i = .int .i64 k ∧ Aside0 (St w (.slice A0_0 l0_0.length c0_0) (.slice A0_1 l0_1.length c0_1) (.slice A0_2 l0_2.length c0_2) (.slice A0_3 l0_3.length c0_3) (.slice A1 l1.length c1) M k D wr) ∧ Aside0 (wr.ownsMap Try.prog 3 (plainElem (H := Unit) Try.prog 3) (M + 1) 0 (.map [])) ∧ Aside0 (PlacesAre D (placeOf (l0_1.take k))))
        (fun i _ => l0_1.length - (intOf i).toNat)
      case atStart => exact ⟨0, _, Nat.zero_le _, rfl, HS4, H88, ⟨places_nil []⟩⟩
      case round =>
        clear HS4 H88 W4
        obtain ⟨k, D, hk, rfl, HS, H88, HP⟩ := hrel
        have hms := HS.out.size
        have p8 : wr.cell? ⟨M + 1 + 1, 0, none⟩ = some (.map (some M)) := (blk_cell HS.out.mc 0).trans rfl
        have l8 : M + 1 + 1 < wr.heap.size := hms
        by_cases hlt : k < l0_1.length
        · obtain ⟨ad, rfl, hx0, hx1, hx2, hx3⟩ := at_T60 (Kd.C_below HR1.out HS.out.below) (k : Int) (by omega) (by omega)
          simp only [Int.toNat_natCast] at hx0 hx1 hx2 hx3
          obtain ⟨x, hx⟩ : ∃ x, x = rd_T60 l0_1 k := ⟨_, rfl⟩
          rw [← hx] at hx0 hx1 hx2 hx3
          have hxg : l0_1[k] = x := by rw [hx]; simp [rd_T60, List.getD_eq_getElem?_getD, List.getElem?_eq_getElem hlt]
          have hwx := HWF0.out x (by rw [← hxg]; exact List.getElem_mem hlt)
          have htk : l0_1.take (k + 1) = l0_1.take k ++ [x] := by rw [List.take_add_one, List.getElem?_eq_getElem hlt, hxg]; rfl
          have HKY := Aside0.mk (keyOf_int_mk Try.underlying3 hwx)
          have HTK := Aside0.mk htk
          have hb0 := World.block_lt_of_cell? _ _ hx0
          clear hx hxg hwx htk
          go_wp2_with (first
            | (at_mapUpdate; go_must (refine wpList_mapUpdate_own _ rfl _ _ _ 87 rfl 3 60 law3 Try.underlying87 seatElem M k _ rfl (HS.out.own.alloc _) (by unfold maxLen; omega) _ _ _ rfl rfl HKY.out _ [] (seatElem_mk x) ?_); intro w1 hown1 hgrow1)
            | go_in)
          go_roundw
          case rel => exact ⟨k + 1, _, by omega, by go_num, ⟨(HS.out.alloc _).put hgrow1 hown1⟩, ⟨(H88.out.alloc _).kept hgrow1 (fun h => by injection h with h; omega)⟩, ⟨by rw [HTK.out]; exact places_snoc (by obtain ⟨es, he, _⟩ := HS.out.own.tidy law3; exact ⟨es, he⟩) HP.out x⟩⟩
          case measure => simp [intOf]; omega
        · have HP' : Aside0 (PlacesAre D (placeOf l0_1)) := ⟨by have h := HP.out; rwa [List.take_of_length_le (by omega)] at h⟩
          have HK := Aside0.mk (show k ≤ l0_1.length from hk)
          obtain ⟨i0, hi, hz, hb1, hb2⟩ := info_parts info3
          have p3 : wr.cell? ⟨w.heap.size + 1, 0, none⟩ = some (.slice A1 l1.length c1) := (blk_cell HS.out.its 0).trans rfl
          have l3 := World.block_lt_of_cell? _ _ p3
          clear HP
          go_wp2_with (first
            | ((with_reducible refine gate_dst (N := 48) rfl ?_); go_must (refine wpList_make_own _ rfl _ _ 24 rfl (M + 3) 3 i0 (.int .i64 0) 1 Try.underlying24 hi hz hb1 .i64 .i64 _ l1.length rfl rfl rfl (by rw [hb2]; omega) (by unfold maxLen; omega) hms ?_); intro w1 hw1 hg1
               have c3 : w1.cell? ⟨w.heap.size + 1, 0, none⟩ = some (.slice A1 l1.length c1) := (World.cell?_of_block (w := wr) (hg1.block _ l3 (by simp))).trans p3
               have d3 := World.block_lt_of_cell? _ _ c3
               clear p3 l3)
            | go_in)
          have hbl : Below (M + 3) wr w1 := (Below.refl _ _).grown hg1 hms (fun k hk => by cases hk)
          have HS5 := Aside0.mk ((HS.out.low hbl).alloc (.cells #[.slice (some ⟨wr.heap.size, 0, none⟩) 0 l1.length] 24))
          have H85 := Aside0.mk ((own88_below H88.out hbl (by omega)).alloc (.cells #[.slice (some ⟨wr.heap.size, 0, none⟩) 0 l1.length] 24))
          have HC5 := Aside0.mk (blk_new w1 (.cells #[.slice (some ⟨wr.heap.size, 0, none⟩) 0 l1.length] 24))
          have HR5 := Aside0.mk (Kd.R_alloc (Kd.R_of_own (h1 := fun _ => rfl) (enc := Value.int .i64) (xs := []) hw1 (ok := fun _ => True) (fun _ _ => trivial)) (.cells #[.slice (some ⟨wr.heap.size, 0, none⟩) 0 l1.length] 24))
          have hBM : M + 3 ≤ w1.heap.size := Nat.le_trans hms hbl.size
          generalize w1.alloc (.cells #[.slice (some ⟨wr.heap.size, 0, none⟩) 0 l1.length] 24) = W5 at HS5 H85 HC5 HR5 ⊢
          generalize w1.heap.size = B at HC5 hBM ⊢
          generalize (Value.slice (some ⟨wr.heap.size, 0, none⟩) 0 l1.length) = vo5 at HC5 HR5
          clear hbl hw1 hg1 c3 d3 HS H88 p8 l8 hms w1 hi hz hb1 hb2 i0
          go_loopw [51] (fun i wr => ∃ (j : Nat) (vo : Value) (D2 : DataW Unit), j ≤ l1.length ∧ i = .int .i64 j ∧ Aside0 (St w (.slice A0_0 l0_0.length c0_0) (.slice A0_1 l0_1.length c0_1) (.slice A0_2 l0_2.length c0_2) (.slice A0_3 l0_3.length c0_3) (.slice A1 l1.length c1) M k D wr) ∧ Aside0 (wr.ownsMap Try.prog 3 (plainElem (H := Unit) Try.prog 3) (M + 1) j D2) ∧ Aside0 (ManyAre D2 (l1.take j)) ∧
              Aside0 (wr.heap[B]? = some (.cells #[vo] 24 (0, 0))) ∧ Aside0 (Kd.R (Kd.int .i64) 3 wr (M + 3) (fun _ => True) vo (upTo j)) ∧ Aside0 (sortScan l0_1 [] l1 = sortScan l0_1 (l1.take j) (l1.drop j)))
            (fun i _ => l1.length - (intOf i).toNat)
          case atStart => exact ⟨0, vo5, .map [], Nat.zero_le _, rfl, HS5, H85, ⟨many_nil⟩, HC5, HR5, ⟨rfl⟩⟩
          case round =>
            clear HS5 H85 HC5 HR5 W5
            obtain ⟨j, vo, D2, hj, rfl, HS, H88, HM, HC, HR, HW⟩ := hrel
            have hms := HS.out.size
            have p8 : wr.cell? ⟨M + 1 + 1, 0, none⟩ = some (.map (some M)) := (blk_cell HS.out.mc 0).trans rfl
            have l8 : M + 1 + 1 < wr.heap.size := hms
            by_cases hlt : j < l1.length
            · obtain ⟨ad1, rfl, hy⟩ := Kd.at_int (Kd.C_below HRI.out HS.out.below) (j : Int) (by omega) (by omega)
              simp only [Int.toNat_natCast] at hy
              have hig : l1[j] = rd l1 (j : Int) := by simp [rd, List.getD_eq_getElem?_getD, List.getElem?_eq_getElem hlt]
              have hwi := HWF1.out (rd l1 (j : Int)) (by rw [← hig]; exact List.getElem_mem hlt)
              have htk : l1.take (j + 1) = l1.take j ++ [rd l1 (j : Int)] := by rw [List.take_add_one, List.getElem?_eq_getElem hlt, hig]; rfl
              have hsc := HW.out.trans (sortScan_drop l0_1 l1 (l1.take j) j hlt)
              generalize rd l1 (j : Int) = id at hy hwi htk hsc
              have hb0 := World.block_lt_of_cell? _ _ hy
              have HKY := Aside0.mk (keyOf_int_mk Try.underlying3 hwi)
              have HWI := Aside0.mk hwi
              have HTK := Aside0.mk htk
              clear hwi htk hig HW
              have q0 : wr.cell? ⟨w.heap.size + 1 + 1, 0, none⟩ = some (.slice none 0 0) := (blk_cell HS.out.res 0).trans rfl
              have q1 : wr.cell? ⟨w.heap.size + 1 + 1, 1, none⟩ = some (.slice none 0 0) := (blk_cell HS.out.res 1).trans rfl
              have q2 : wr.cell? ⟨w.heap.size + 1 + 1, 2, none⟩ = some (.slice none 0 0) := (blk_cell HS.out.res 2).trans rfl
              have hl2 : w.heap.size + 1 + 1 < wr.heap.size := by have := HS.out.hM; omega
              cases hpl : placeOf l0_1 id with
              | none =>
                rw [hpl] at hsc
                simp only at hsc
                obtain ⟨rfl, rfl, rfl, rfl⟩ := HE3'.out (by rw [hsc]; decide)
                have HPL := Aside0.mk hpl
                have HSC := Aside0.mk hsc
                clear hpl hsc HE3' HE4'
                have f0 := blk_frozen HS.out.res 0
                have f1 := blk_frozen HS.out.res 1
                have f2 := blk_frozen HS.out.res 2
                go_wp2_with (first
                  | ((with_reducible refine gate_dst (N := 59) rfl ?_); go_must (refine look_ok_none (.tmp 57) (.tmp 58) rfl rfl rfl HS.out.own HP'.out rfl HWI.out HPL.out ?_))
                  | go_in)
                refine bodyPost_ret (results_list (rs := [.cell 4 50, .tmp 5]) rfl (by simp) (.cell (w.heap.size + 1 + 1) 50 _ (0, 0) _ rfl (blk_alloc (three_put HS.out.res _ _ _) _) Try.underlying50 rfl (by kernel_rfl) (.tmp .nil))) rfl ?_
                have hbe := three_below HS.out.below (show w.heap.size ≤ w.heap.size + 2 by omega) (.slice none 0 0) (.slice none 0 0) (.slice none 0 0)
                exact sortPost_err (hbe.alloc hbe.size _) (by rw [HSC.out]; rfl)
              | some x =>
                rw [hpl] at hsc
                simp only at hsc
                obtain ⟨cn, hcn⟩ : ∃ y, y = (l1.take j).count id := ⟨_, rfl⟩
                have hcl : cn ≤ 2000 := by rw [hcn]; refine Nat.le_trans List.count_le_length ?_; rw [List.length_take]; omega
                obtain ⟨cm, hcm⟩ : ∃ y : Nat, y = cn + 1 := ⟨_, rfl⟩
                have hcm2 : (l1.take j ++ [id]).count id = cm := by rw [hcm, hcn]; simp
                rw [← hcn, show ((cn : Nat) : Int) + 1 = (cm : Int) by omega] at hsc
                have HPL := Aside0.mk hpl
                have HCN := Aside0.mk hcn.symm
                have HCM := Aside0.mk hcm2
                have hwm : (Lit.int .i64 ((cn : Int) + 1)).wf = true := WalkArith.wf_i64 (by omega)
                have hM2 := Aside0.mk (many_snoc (by obtain ⟨es, he, _⟩ := H88.out.tidy law3; exact ⟨es, he⟩) HM.out id)
                rw [← hcn] at hM2
                have HWM := Aside0.mk hwm
                have HEM := Aside0.mk (show ((cm : Nat) : Int) = (cn : Int) + 1 by omega)
                clear hpl hcn hcm hcm2 hwm
                by_cases hv : x.f1 < (cm : Int)
                · rw [if_pos hv] at hsc
                  obtain ⟨rfl, rfl, rfl, rfl⟩ := HE3'.out (by rw [hsc]; decide)
                  have HSC := Aside0.mk hsc
                  clear hsc HE3' HE4'
                  go_wp2_with (first
                    | ((with_reducible refine gate_dst (N := 59) rfl ?_); go_must (refine look_ok_some (.tmp 57) (.tmp 58) rfl rfl rfl HS.out.own HP'.out rfl HWI.out HPL.out ?_))
                    | ((with_reducible refine gate_dst (N := 67) rfl ?_); go_must (refine look_many (.tmp 65) (.tmp 66) rfl rfl rfl cn HCN.out (H88.out.alloc _) HM.out rfl HWI.out ?_))
                    | (at_mapUpdate; go_must (refine wpList_mapUpdate_own _ rfl _ _ _ 88 rfl 3 3 law3 Try.underlying88 (plainElem Try.prog 3) (M + 1) j _ rfl (H88.out.alloc _) (by unfold maxLen; omega) _ _ _ rfl rfl HKY.out _ [] (plainElem_int Try.underlying3 HWM.out) ?_); intro w1 hown1 hgrow1
                       have b15 := blk_grown (blk_new wr (.cells #[.int .i64 x.f0, .int .i64 x.f1, .int .i64 x.f2, .int .i64 x.f3] 60)) hgrow1 (fun h => by injection h with h; omega)
                       have t15 : w1.cell? ⟨wr.heap.size, 1, none⟩ = some (.int .i64 x.f1) := (blk_cell b15 1).trans rfl
                       have HS1 := Aside0.mk ((HS.out.alloc _).grown hgrow1)
                       have HO1 := Aside0.mk hown1
                       have q0' : w1.cell? ⟨w.heap.size + 1 + 1, 0, none⟩ = some (.slice none 0 0) := (blk_cell HS1.out.res 0).trans rfl
                       have q1' : w1.cell? ⟨w.heap.size + 1 + 1, 1, none⟩ = some (.slice none 0 0) := (blk_cell HS1.out.res 1).trans rfl
                       have q2' : w1.cell? ⟨w.heap.size + 1 + 1, 2, none⟩ = some (.slice none 0 0) := (blk_cell HS1.out.res 2).trans rfl
                       have f0 := blk_frozen HS1.out.res 0
                       have f1 := blk_frozen HS1.out.res 1
                       have f2 := blk_frozen HS1.out.res 2
                       clear hown1 q0 q1 q2 p8 b15)
                    | ((with_reducible refine gate_dst (N := 71) rfl ?_); go_must (refine look_many (.tmp 69) (.tmp 70) rfl rfl rfl cm HCM.out HO1.out hM2.out rfl HWI.out ?_))
                    | go_in)
                  refine bodyPost_ret (results_list (rs := [.cell 4 50, .tmp 5]) rfl (by simp) (.cell (w.heap.size + 1 + 1) 50 _ (0, 0) _ rfl (three_put HS1.out.res _ _ _) Try.underlying50 rfl (by kernel_rfl) (.tmp .nil))) rfl ?_
                  exact sortPost_err (three_below HS1.out.below (show w.heap.size ≤ w.heap.size + 2 by omega) (.slice none 0 0) (.slice none 0 0) (.slice none 0 0)) (by rw [HSC.out]; rfl)
                · rw [if_neg hv] at hsc
                  have HSC := Aside0.mk hsc
                  clear hsc
                  go_wp2_with (first
                    | ((with_reducible refine gate_dst (N := 59) rfl ?_); go_must (refine look_ok_some (.tmp 57) (.tmp 58) rfl rfl rfl HS.out.own HP'.out rfl HWI.out HPL.out ?_))
                    | ((with_reducible refine gate_dst (N := 67) rfl ?_); go_must (refine look_many (.tmp 65) (.tmp 66) rfl rfl rfl cn HCN.out (H88.out.alloc _) HM.out rfl HWI.out ?_))
                    | (at_mapUpdate; go_must (refine wpList_mapUpdate_own _ rfl _ _ _ 88 rfl 3 3 law3 Try.underlying88 (plainElem Try.prog 3) (M + 1) j _ rfl (H88.out.alloc _) (by unfold maxLen; omega) _ _ _ rfl rfl HKY.out _ [] (plainElem_int Try.underlying3 HWM.out) ?_); intro w1 hown1 hgrow1
                       have b15 := blk_grown (blk_new wr (.cells #[.int .i64 x.f0, .int .i64 x.f1, .int .i64 x.f2, .int .i64 x.f3] 60)) hgrow1 (fun h => by injection h with h; omega)
                       have t15 : w1.cell? ⟨wr.heap.size, 1, none⟩ = some (.int .i64 x.f1) := (blk_cell b15 1).trans rfl
                       have HS1 := Aside0.mk ((HS.out.alloc _).grown hgrow1)
                       have HO1 := Aside0.mk hown1
                       have c1_ := blk_grown (blk_alloc HC.out (.cells #[.int .i64 x.f0, .int .i64 x.f1, .int .i64 x.f2, .int .i64 x.f3] 60)) hgrow1 (fun h => by injection h with h; omega)
                       have cB : w1.cell? ⟨B, 0, none⟩ = some vo := (blk_cell c1_ 0).trans rfl
                       have HC1 := Aside0.mk c1_
                       have HR1' := Aside0.mk (Kd.R_grown1 (Kd.R_alloc HR.out (.cells #[.int .i64 x.f0, .int .i64 x.f1, .int .i64 x.f2, .int .i64 x.f3] 60)) rfl hgrow1 (fun h => by have := Kd.R_base HR.out _ h.symm; omega))
                       have hsz1 : M + 3 ≤ w1.heap.size := HS1.out.size
                       clear c1_
                       clear hown1 q0 q1 q2 p8 b15)
                    | ((with_reducible refine gate_dst (N := 71) rfl ?_); go_must (refine look_many (.tmp 69) (.tmp 70) rfl rfl rfl cm HCM.out HO1.out hM2.out rfl HWI.out ?_))
                    | ((with_reducible refine gate_builtin (b := .append) (xs := #[.tmp 76, .tmp 78]) rfl ?_); at_builtin; go_must (refine Kd.R_append (Kd.int .i64) (w0 := w1) (M + 3) rfl (.tmp 76) (.tmp 78) 24 3 (.int .i64 0) 8 rfl Try.underlying24 info3 rfl (by decide) (by omega) vo (upTo j) (j : Int) [.int .i64 j] (fun _ => True) (fun _ => False) rfl rfl rfl (fun _ hk => hk.elim) (fun _ _ => trivial) HR1'.out (Below.refl _ _) hsz1 ?aL ?_); (case aL => rw [upTo_len]; omega); intro v6 w6 ho hb hg hat
                       obtain ⟨A6, k6, e6⟩ := Kd.R_slice ho
                       rw [← upTo_succ] at ho e6
                       rw [upTo_len] at e6
                       subst e6
                       have c6 := blk_grown HC1.out hg (Kd.R_ne HR1'.out HC1.out (by decide))
                       have cB6 : w6.cell? ⟨B, 0, none⟩ = some vo := (blk_cell c6 0).trans rfl
                       have fB6 := blk_frozen c6 0
                       have HC6 := Aside0.mk c6
                       have HR6 := Aside0.mk ho
                       have HB6 := Aside0.mk hb
                       clear ho hb hg hat c6 cB)
                    | go_in)
                  go_roundw
                  case rel =>
                    have hls : Below (M + 3) w1 (w6.setCell ⟨B, 0, none⟩ (.slice A6 (j + 1) k6)) := HB6.out.setCell hBM _
                    refine ⟨j + 1, _, _, by omega, by go_num, ⟨HS1.out.low hls⟩, ⟨own88_below HO1.out hls (by omega)⟩, ⟨by rw [HTK.out]; exact hM2.out⟩, ⟨blk_put HC6.out 0 _ rfl⟩, ⟨Kd.R_set HR6.out HC6.out (by decide) 0 _⟩, ⟨by rw [HSC.out, HTK.out]⟩⟩
                  case measure => simp [intOf]; omega
            · obtain rfl : j = l1.length := by omega
              obtain ⟨⟨hn0, hn1, hsi⟩, rfl, rfl, rfl, rfl⟩ := HE4'.out (by rw [HW.out, List.drop_length]; rfl)
              have hsz := sortScan_zero l0_1 l1 [] (by rw [HW.out, List.drop_length]; rfl)
              obtain ⟨A, c, hvo⟩ := Kd.R_slice HR.out
              rw [upTo_len] at hvo
              subst hvo
              have HSZ := Aside0.mk hsz
              have HSI := Aside0.mk hsi
              clear hsz hsi HE3' HE4' HW HM H88 p8 l8
              have hN2 : w.heap.size + 2 < wr.heap.size := blk_lt HS.out.res
              have hBl : B < wr.heap.size := blk_lt HC.out
              go_wp2_with fail
              refine (pass42 44 (fun x => x.f2) (fun x w => sort44 _ _ _ _ w) (fun args w => enters_ Try.func44 (by kernel_rfl) rfl args w) w A0_0 c0_0 l0_0 _ _ _ A1 c1 l1 M k D (placeOf l0_1) HP'.out HRI.out HWF1.out hn0 hn1 wr HS.out B hBM A c (upTo l1.length) (by rw [upTo_len]; exact HC.out) (by have h := (Kd.R_reads' HR.out).2.2; exact h) (by rw [upTo_len]; omega)
                (fun i hi => by obtain ⟨x, h1, h2, _⟩ := sort_in l0_1 l1 l0_0.length HSZ.out HSI.out i (upTo_mem hi).1 (upTo_mem hi).2; exact ⟨(upTo_mem hi).1, (upTo_mem hi).2, x, h1, h2⟩)
                (keyFirst l0_1 l1) (fun i hi x hx => by unfold keyFirst; rw [hx])).mono ?_
              rintro en W1 ⟨v1, u1, rfl, hS1, hB1, hK1, hc1', hR1⟩
              have HS1 := Aside0.mk (HS.out.low (hB1.mono hBM))
              have hfm := passRows_mem l0_0.length (keyFirst l0_1 l1) (upTo l1.length)
              have hfl := passRows_flat_le l0_0.length (keyFirst l0_1 l1) (upTo l1.length)
              rw [upTo_len] at hfl
              have hr1e : passRows l0_0.length (keyFirst l0_1 l1) (upTo l1.length) = firstRows l0_0.length l0_1 l1 := rfl
              rw [hr1e] at hS1 hR1 hfm hfl
              obtain ⟨A1', c1'', rfl⟩ := Kd.S_slice hS1
              obtain ⟨A2', c2'', hu1⟩ := Kd.R_slice hR1
              subst hu1
              have HFM := Aside0.mk hfm
              have HSA := Aside0.mk (Kd.S_mono (Kd.S_bound hS1) (fun k hk => (⟨hk.2.1, hk.2.2.1⟩ : wr.heap.size ≤ k ∧ k < W1.heap.size)))
              have HR1' := Aside0.mk hR1
              have HC1 := Aside0.mk hc1'
              have hW1 : wr.heap.size ≤ W1.heap.size := hB1.size
              clear hr1e hS1 hR1 hfm hc1' hB1 hK1 HS HC HR
              dsimp only
              go_wp2_with fail
              have HS2 := Aside0.mk (HS1.out.alloc (.cells #[.slice A1' (firstRows l0_0.length l0_1 l1).length c1'', .slice none 0 0, .slice none 0 0] 50))
              have HC2 := Aside0.mk (blk_alloc HC1.out (.cells #[.slice A1' (firstRows l0_0.length l0_1 l1).length c1'', .slice none 0 0, .slice none 0 0] 50))
              have HT2 := Aside0.mk (blk_new W1 (.cells #[.slice A1' (firstRows l0_0.length l0_1 l1).length c1'', .slice none 0 0, .slice none 0 0] 50))
              have HR2' := Aside0.mk (Kd.R_alloc HR1'.out (.cells #[.slice A1' (firstRows l0_0.length l0_1 l1).length c1'', .slice none 0 0, .slice none 0 0] 50))
              have HSA2 := Aside0.mk (Kd.S_alloc HSA.out (.cells #[.slice A1' (firstRows l0_0.length l0_1 l1).length c1'', .slice none 0 0, .slice none 0 0] 50))
              have hsz2 : (W1.alloc (.cells #[.slice A1' (firstRows l0_0.length l0_1 l1).length c1'', .slice none 0 0, .slice none 0 0] 50)).heap.size = W1.heap.size + 1 := World.size_alloc _ _
              generalize W1.alloc (.cells #[.slice A1' (firstRows l0_0.length l0_1 l1).length c1'', .slice none 0 0, .slice none 0 0] 50) = W2 at HS2 HC2 HT2 HR2' HSA2 hsz2 ⊢
              refine (pass42 45 (fun x => x.f3) (fun x w => sort45 _ _ _ _ w) (fun args w => enters_ Try.func45 (by kernel_rfl) rfl args w) w A0_0 c0_0 l0_0 _ _ _ A1 c1 l1 M k D (placeOf l0_1) HP'.out HRI.out HWF1.out hn0 hn1 W2 HS2.out B hBM _ _ (firstRows l0_0.length l0_1 l1).flatten HC2.out (Kd.R_reads' HR2'.out).2.2 (by omega)
                (fun i hi => by have hi := HFM.out i hi; obtain ⟨x, h1, _, h2⟩ := sort_in l0_1 l1 l0_0.length HSZ.out HSI.out i (upTo_mem hi).1 (upTo_mem hi).2; exact ⟨(upTo_mem hi).1, (upTo_mem hi).2, x, h1, h2⟩)
                (keySecond l0_1 l1) (fun i hi x hx => by unfold keySecond; rw [hx])).mono ?_
              rintro en W3 ⟨v2, u2, rfl, hS3, hB3, hK3, hc3', hR3⟩
              have hr2e : passRows l0_0.length (keySecond l0_1 l1) (firstRows l0_0.length l0_1 l1).flatten = secondRows l0_0.length l0_1 l1 := rfl
              rw [hr2e] at hS3 hR3
              clear hr2e
              obtain ⟨fl, hfl2⟩ : ∃ y, y = (secondRows l0_0.length l0_1 l1).flatten := ⟨_, rfl⟩
              rw [← hfl2] at hR3
              have HFL := Aside0.mk hfl2
              clear hfl2
              obtain ⟨A3', c3'', hv2⟩ := Kd.S_slice hS3
              obtain ⟨A4', c4'', hu2⟩ := Kd.R_slice hR3
              have HS3 := Aside0.mk (HS2.out.low (hB3.mono hBM))
              have hT3 : W3.heap[W1.heap.size]? = _ := (hK3.2 W1.heap.size (by omega) (by omega) (by simp)).trans HT2.out
              have HT3 := Aside0.mk hT3
              have HSA3 := Aside0.mk (Kd.S_keep HSA2.out hK3 (fun k hk => by omega))
              have HV2 := Aside0.mk (Kd.S_mono (Kd.S_bound hS3) (fun k hk => (⟨hk.1, hk.2.1⟩ : some k ≠ u2.ownBlock ∧ W2.heap.size ≤ k)))
              have HU2 := Aside0.mk (Kd.R_mono (Kd.R_bound hR3) (fun k hk => (hk.2.1 : W2.heap.size ≤ k)))
              have HC3 := Aside0.mk hc3'
              clear hS3 hB3 hK3 hc3' hR3 HS1 HS2 HC1 HC2 HT2 HR1' HR2' HSA2
              have s0 : W3.cell? ⟨W1.heap.size, 0, none⟩ = some (.slice A1' (firstRows l0_0.length l0_1 l1).length c1'') := (blk_cell hT3 0).trans rfl
              have s1 : W3.cell? ⟨W1.heap.size, 1, none⟩ = some (.slice none 0 0) := (blk_cell hT3 1).trans rfl
              have s2 : W3.cell? ⟨W1.heap.size, 2, none⟩ = some (.slice none 0 0) := (blk_cell hT3 2).trans rfl
              have g0 := blk_frozen hT3 0
              have g1 := blk_frozen hT3 1
              have g2 := blk_frozen hT3 2
              have q0 : W3.cell? ⟨w.heap.size + 1 + 1, 0, none⟩ = some (.slice none 0 0) := (blk_cell HS3.out.res 0).trans rfl
              have q1 : W3.cell? ⟨w.heap.size + 1 + 1, 1, none⟩ = some (.slice none 0 0) := (blk_cell HS3.out.res 1).trans rfl
              have q2 : W3.cell? ⟨w.heap.size + 1 + 1, 2, none⟩ = some (.slice none 0 0) := (blk_cell HS3.out.res 2).trans rfl
              have f0 := blk_frozen HS3.out.res 0
              have f1 := blk_frozen HS3.out.res 1
              have f2 := blk_frozen HS3.out.res 2
              have qB : W3.cell? ⟨B, 0, none⟩ = some u2 := (blk_cell HC3.out 0).trans rfl
              have ne1 : ¬ (B = W1.heap.size) := by omega
              have ne2 : ¬ (W1.heap.size = B) := by omega
              have ne3 : ¬ (w.heap.size + 1 + 1 = W1.heap.size) := by omega
              have ne4 : ¬ (W1.heap.size = w.heap.size + 1 + 1) := by omega
              subst hv2
              subst hu2
              clear hT3
              dsimp only
              go_wp2_with fail
              refine bodyPost_ret (results_list (rs := [.cell 4 50, .tmp 5]) rfl (by simp) (.cell (w.heap.size + 1 + 1) 50 _ (0, 0) _ rfl (three_put (blk_far (blk_far HS3.out.res ne3 _) ne3 _) _ _ _) Try.underlying50 rfl (by kernel_rfl) (.tmp .nil))) rfl ?_
              refine ⟨_, _, _, rfl, ?_, ?_, ?_, ?_⟩
              · exact Kd.S_lower (Kd.S_mono (S_five (HSA3.out) (fun k hk => by omega) (fun k hk => by omega) _ _ _ _ _) (fun k hk => ⟨fun he => by have := Kd.S_base HV2.out k he.symm; omega, fun he => by have := Kd.R_base HU2.out k he.symm; omega⟩)) (by omega)
              · exact Kd.S_lower (Kd.S_mono (S_five (HV2.out) (fun k hk => by omega) (fun k hk => by omega) _ _ _ _ _) (fun k hk => ⟨fun he => by have := Kd.S_lt HSA.out k he.symm; omega, hk.1⟩)) (by omega)
              · rw [← HFL.out]
                exact Kd.R_lower (Kd.R_mono (R_five (HU2.out) (fun k hk => by omega) (fun k hk => by omega) _ _ _ _ _) (fun _ _ => trivial)) (by omega)
              · exact ((((HS3.out.below.setCell (show w.heap.size ≤ W1.heap.size by omega) _).setCell (show w.heap.size ≤ W1.heap.size by omega) _).setCell (show w.heap.size ≤ w.heap.size + 1 + 1 by omega) _).setCell (show w.heap.size ≤ w.heap.size + 1 + 1 by omega) _).setCell (show w.heap.size ≤ w.heap.size + 1 + 1 by omega) _
  · have q0 : W.cell? ⟨w.heap.size + 1 + 1, 0, none⟩ = some (.slice none 0 0) := (blk_cell G2.out 0).trans rfl
    have q1 : W.cell? ⟨w.heap.size + 1 + 1, 1, none⟩ = some (.slice none 0 0) := (blk_cell G2.out 1).trans rfl
    have q2 : W.cell? ⟨w.heap.size + 1 + 1, 2, none⟩ = some (.slice none 0 0) := (blk_cell G2.out 2).trans rfl
    have f0 := blk_frozen G2.out 0
    have f1 := blk_frozen G2.out 1
    have f2 := blk_frozen G2.out 2
    obtain ⟨rfl, rfl, rfl, rfl⟩ := HE1.out h0
    clear HE1 HE2 HE3 HE4
    go_wp2
    refine bodyPost_ret (results_list (rs := [.cell 4 50, .tmp 5]) rfl (by simp) (.cell (w.heap.size + 1 + 1) 50 _ (0, 0) _ rfl (three_put G2.out _ _ _) Try.underlying50 rfl (by kernel_rfl) (.tmp .nil))) rfl ?_
    exact sortPost_err (three_below HB.out (by omega) _ _ _) rfl

theorem sequence_Sort.calls (A0_0 : Option Addr) (c0_0 : Nat) (l0_0 : List Int) (A0_1 : Option Addr) (c0_1 : Nat) (l0_1 : List (S60)) (A0_2 : Option Addr) (c0_2 : Nat) (l0_2 : List Int) (A0_3 : Option Addr) (c0_3 : Nat) (l0_3 : List Int) (A1 : Option Addr) (c1 : Nat) (l1 : List Int) (r1 : List (List Int)) (r2 : List (List Int)) (r3 : List Int) (r4 : Int) (w : World) (hr0_0 : Kd.C (Kd.int .i64) w A0_0 l0_0.length l0_0) (hc0_0 : l0_0.length ≤ c0_0) (hr0_1 : Kd.C k60 w A0_1 l0_1.length l0_1) (hc0_1 : l0_1.length ≤ c0_1) (hr0_2 : Kd.C (Kd.int .i64) w A0_2 l0_2.length l0_2) (hc0_2 : l0_2.length ≤ c0_2) (hr0_3 : Kd.C (Kd.int .i64) w A0_3 l0_3.length l0_3) (hc0_3 : l0_3.length ≤ c0_3) (hr1 : Kd.C (Kd.int .i64) w A1 l1.length l1) (hc1 : l1.length ≤ c1) (h : sequence_Sort.f l0_0 l0_1 l0_2 l0_3 l1 = some (r1, r2, r3, r4)) :
    Calls Try.prog 23 #[.agg #[.slice A0_0 l0_0.length c0_0, .slice A0_1 l0_1.length c0_1, .slice A0_2 l0_2.length c0_2, .slice A0_3 l0_3.length c0_3], .slice A1 l1.length c1] w fun e w' => ∃ v0_ v1_ v2_ : Value, e = .returned (.tuple #[.agg #[v0_, v1_, v2_], .int .i64 r4]) ∧ Kd.S (Kd.slice 3 (Kd.int .i64)) 24 w' w.heap.size (fun k_ => some k_ ≠ (v1_ : Value).ownBlock ∧ some k_ ≠ (v2_ : Value).ownBlock) v0_ r1 ∧ Kd.S (Kd.slice 3 (Kd.int .i64)) 24 w' w.heap.size (fun k_ => some k_ ≠ (v0_ : Value).ownBlock ∧ some k_ ≠ (v2_ : Value).ownBlock) v1_ r2 ∧ Kd.R (Kd.int .i64) 3 w' w.heap.size (fun _ => True) v2_ r3 ∧ Below w.heap.size w w' := by
  unfold sequence_Sort.f at h
  split at h
  · rename_i hw
    simp only [Bool.and_eq_true, List.all_eq_true] at hw
    split at h
    · cases h
    · rename_i at_ e hchk
      refine sort_walk A0_0 c0_0 l0_0 A0_1 c0_1 l0_1 A0_2 c0_2 l0_2 A0_3 c0_3 l0_3 A1 c1 l1 r1 r2 r3 r4 w hr0_0 hc0_0 hr0_1 hc0_1 hr0_2 hc0_2 hr0_3 hc0_3 hr1 hc1 hw.1 hw.2 at_ e hchk (fun he => ?_) (fun he h5 => ?_) (fun he h5 hs => ?_) (fun he h5 hs => ?_)
      · rw [if_neg he] at h
        injection h with h
        simp only [Prod.mk.injEq] at h
        obtain ⟨rfl, rfl, rfl, rfl⟩ := h
        exact ⟨rfl, rfl, rfl, rfl⟩
      · rw [if_pos he, if_pos h5] at h
        injection h with h
        simp only [Prod.mk.injEq] at h
        obtain ⟨rfl, rfl, rfl, rfl⟩ := h
        exact ⟨rfl, rfl, rfl, rfl⟩
      · rw [if_pos he, if_neg h5, if_neg hs] at h
        injection h with h
        simp only [Prod.mk.injEq] at h
        obtain ⟨rfl, rfl, rfl, rfl⟩ := h
        exact ⟨rfl, rfl, rfl, rfl⟩
      · rw [if_pos he, if_neg h5, if_pos hs] at h
        split at h
        · rename_i hc
          injection h with h
          simp only [Prod.mk.injEq] at h
          obtain ⟨rfl, rfl, rfl, rfl⟩ := h
          exact ⟨hc, rfl, rfl, rfl, rfl⟩
        · cases h
  · cases h
end Go.Proofs.Ytbhcchcjmgfpiaa.Print
