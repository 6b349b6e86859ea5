/- The loop of sequence.Make over its iterator: the seats are collected, and the loads of both passes added up. By hand. -/
import Derived.Test.YtbhcchcjmgfpiaaGd1
import Derived.Test.YtbhcchcjmgfpiaaGd1b
namespace Go.Proofs.Ytbhcchcjmgfpiaa.Print
open Go.RowKit Go.Shelf Go.Proofs.YtbhcchcjmgfpiaaW.PrintWords Go.Proofs.YtbhcchcjmgfpiaaW.PrintLast Go.Proofs.YtbhcchcjmgfpiaaW.PrintMore
attribute [local go_sem] Oper.semAt_some

def putI (xs : List Int) (i v : Int) : List Int := xs.set i.toNat (rd xs i + v)
def loadsF (n : Nat) (l : List S60) : List Int := l.foldl (fun acc x => putI acc x.f2 x.f1) (List.replicate n 0)
def loadsS (n : Nat) (l : List S60) : List Int := l.foldl (fun acc x => putI acc x.f3 x.f1) (List.replicate n 0)
def cells60 (l : List S60) : List Value := l.flatMap fun x => [.int .i64 x.f0, .int .i64 x.f1, .int .i64 x.f2, .int .i64 x.f3]
theorem putI_len (xs : List Int) (i v : Int) : (putI xs i v).length = xs.length := by simp [putI]
theorem loadsF_snoc (n : Nat) (l : List S60) (x : S60) : loadsF n (l ++ [x]) = putI (loadsF n l) x.f2 x.f1 := by simp [loadsF]
theorem loadsS_snoc (n : Nat) (l : List S60) (x : S60) : loadsS n (l ++ [x]) = putI (loadsS n l) x.f3 x.f1 := by simp [loadsS]
theorem cells60_snoc (l : List S60) (x : S60) : cells60 (l ++ [x]) = cells60 l ++ [.int .i64 x.f0, .int .i64 x.f1, .int .i64 x.f2, .int .i64 x.f3] := by simp [cells60]
theorem rd_putI (xs : List Int) (i v j : Int) (hi : 0 ≤ i) (hj : 0 ≤ j) (hl : i < xs.length) : rd (putI xs i v) j = if i = j then rd xs i + v else rd xs j := by
  by_cases h : i = j
  · subst h
    rw [if_pos rfl]
    simp only [rd, putI, List.getD_eq_getElem?_getD]
    rw [List.getElem?_set_self (by omega)]
    rfl
  · rw [if_neg h]
    simp only [rd, putI, List.getD_eq_getElem?_getD]
    rw [List.getElem?_set_ne (by omega)]
theorem rd_zeros (n : Nat) (j : Int) : rd (List.replicate n 0) j = 0 := by
  simp only [rd, List.getD_eq_getElem?_getD]
  by_cases h : j.toNat < n
  · rw [List.getElem?_replicate_of_lt h]; rfl
  · rw [List.getElem?_eq_none (by simp; omega)]; rfl
/-- A load: from 0 to ten thousand a seat. -/
theorem loads_bound (sel : S60 → Int) (n : Nat) (l : List S60) (h : ∀ x ∈ l, 0 ≤ sel x ∧ sel x < n ∧ 1 ≤ x.f1 ∧ x.f1 ≤ 10000) :
    (l.foldl (fun acc x => putI acc (sel x) x.f1) (List.replicate n 0)).length = n ∧ ∀ j : Int, 0 ≤ j → 0 ≤ rd (l.foldl (fun acc x => putI acc (sel x) x.f1) (List.replicate n 0)) j ∧ rd (l.foldl (fun acc x => putI acc (sel x) x.f1) (List.replicate n 0)) j ≤ 10000 * l.length := by
  suffices key : ∀ (l : List S60) (acc : List Int) (b : Int), (∀ x ∈ l, 0 ≤ sel x ∧ sel x < n ∧ 1 ≤ x.f1 ∧ x.f1 ≤ 10000) → acc.length = n → 0 ≤ b → (∀ j : Int, 0 ≤ j → 0 ≤ rd acc j ∧ rd acc j ≤ b) →
      (l.foldl (fun acc x => putI acc (sel x) x.f1) acc).length = n ∧ ∀ j : Int, 0 ≤ j → 0 ≤ rd (l.foldl (fun acc x => putI acc (sel x) x.f1) acc) j ∧ rd (l.foldl (fun acc x => putI acc (sel x) x.f1) acc) j ≤ b + 10000 * l.length by
    have := key l (List.replicate n 0) 0 h (by simp) (by omega) (fun j _ => by rw [rd_zeros]; omega)
    simpa using this
  intro l
  induction l with
  | nil => intro acc b _ ha hb hr; exact ⟨ha, fun j hj => by have := hr j hj; simp; omega⟩
  | cons x xs ih =>
    intro acc b hx ha hb hr
    obtain ⟨h0, h1, h2, h3⟩ := hx x (by simp)
    have := ih (putI acc (sel x) x.f1) (b + 10000) (fun y hy => hx y (by simp [hy])) (by rw [putI_len, ha]) (by omega) (fun j hj => by
      rw [rd_putI _ _ _ _ h0 hj (by omega)]
      have := hr j hj
      have := hr (sel x) h0
      split <;> omega)
    refine ⟨this.1, fun j hj => ?_⟩
    have := this.2 j hj
    simp only [List.foldl_cons, List.length_cons] at this ⊢
    omega

/-- The loop over the iterator, as the program has it. -/
def findRange : Code → Option Code
  | .rangeFunc g ps a b => some (.rangeFunc g ps a b)
  | .seq a b => match findRange a with
    | some c => some c
    | none => findRange b
  | .cond _ a b => match findRange a with
    | some c => some c
    | none => findRange b
  | .block _ c => findRange c
  | .loop c => findRange c
  | .scope c => findRange c
  | _ => none


theorem infoS60 : (Try.prog.info? 60).map (fun i => (i.zero, i.size, i.bytes)) = some (some (.agg #[.int .i64 0, .int .i64 0, .int .i64 0, .int .i64 0]), 4, 32) := by kernel_rfl
theorem cells_new4 (w : World) (a b c d : Value) (t : TypeId) : ∀ j u, [a, b, c, d][j]? = some u → (w.alloc (.cells #[a, b, c, d] t)).cell? ((⟨w.heap.size, 0, none⟩ : Addr).add j) = some u := by
  intro j u hj
  rw [add_plain, blk_cell (blk_new w _)]
  match j, hj with
  | 0, hj => simpa using hj
  | 1, hj => simpa using hj
  | 2, hj => simpa using hj
  | 3, hj => simpa using hj
  | j + 4, hj => simp at hj

/-- What holds between two rounds, the seats l having come: W0 is the world in which the loop began, gp the plan's block, g3 and g4 the loads' blocks. -/
def LoopAt (w W0 : World) (gp g3 g4 N c3 c4 : Nat) (v36 : Value) (l : List S60) (W : World) : Prop :=
  ∃ vs, W.heap[gp]? = some (.cells #[v36, vs, .slice (some ⟨g3, 0, none⟩) N c3, .slice (some ⟨g4, 0, none⟩) N c4] 38 (0, 0)) ∧ W.ownsRow W0.heap.size 60 4 vs l.length (cells60 l) ∧
    W.ownsRow w.heap.size 3 1 (.slice (some ⟨g3, 0, none⟩) N c3) N (nums .i64 (loadsF N l)) ∧ W.ownsRow w.heap.size 3 1 (.slice (some ⟨g4, 0, none⟩) N c4) N (nums .i64 (loadsS N l)) ∧ Below w.heap.size w W ∧ W0.heap.size ≤ W.heap.size ∧
    ∀ i o, W0.heap[i]? = some o → i ≠ gp → i ≠ g3 → i ≠ g4 → W.heap[i]? = some o
/-- New blocks, and turns of blocks that are no cells and that the loop has made, leave it. -/
theorem LoopAt.grown {w W0 W W1 : World} {gp g3 g4 N c3 c4 : Nat} {v36 : Value} {l : List S60} {row : Option Nat} (hw : w.heap.size ≤ W0.heap.size) (h : LoopAt w W0 gp g3 g4 N c3 c4 v36 l W) (hg : W.grownBy W1 row)
    (hr : ∀ r, row = some r → W0.heap.size ≤ r ∧ ∃ o : Obj, W.heap[r]? = some o ∧ o.isCells = false) : LoopAt w W0 gp g3 g4 N c3 c4 v36 l W1 := by
  obtain ⟨vs, hp, hs, h3, h4, hb, hz, hk⟩ := h
  have ne : ∀ (g : Nat) (o : Obj), W.heap[g]? = some o → o.isCells = true → some g ≠ row := fun g o ho hc e => by
    obtain ⟨_, o', ho', hc'⟩ := hr g e.symm
    rw [ho] at ho'
    cases ho'
    rw [hc] at hc'
    cases hc'
  have nr : ∀ {base e size n : Nat} {v : Value} {xs : List Value}, W.ownsRow base e size v n xs → v.ownBlock = none ∨ v.ownBlock ≠ row := fun {base e size n v xs} ho => by
    rcases ho.2 with ⟨rfl, _⟩ | ⟨g, cap, cur, rfl, _, hgb, _⟩
    · exact .inl rfl
    · exact .inr (ne g _ hgb rfl)
  refine ⟨vs, (hg.block gp (blk_lt hp) (ne gp _ hp rfl)).trans hp, hs.kept hg (nr hs), h3.kept hg (nr h3), h4.kept hg (nr h4), hb.grown hg hb.size (fun k e => by have := (hr k e).1; omega), Nat.le_trans hz hg.size, fun i o hi h1 h2 h5 => ?_⟩
  have := hk i o hi h1 h2 h5
  refine (hg.block i (blk_lt this) (fun e => ?_)).trans this
  have := (hr i e.symm).1
  have := blk_lt hi
  omega

set_option linter.unusedSimpArgs false in
set_option linter.unusedVariables false in
set_option maxRecDepth 100000 in
set_option maxHeartbeats 4000000 in
theorem loop16 (c : Code) (hcode : (Try.f16.body.bind findRange) = some c) (u0 u1 u2 u3 u4 u5 u6 u8 u9 u10 u11 u12 u13 u14 u15 u16 u17 u18 u19 u20 u21 u22 u23 u24 u25 u26 u27 u28 u29 u30 u31 u32 u33 u34 u35 u36 u37 u38 u39 u40 u41 u42 u43 u44 u45 u46 u48 u49 u50 u51 u52 u53 u54 u55 u56 u57 u58 u59 u60 u61 u62 u63 u64 u65 u66 u67 u68 u69 u70 u71 u72 u73 u74 u75 u76 u77 u78 u79 u80 u81 u82 u83 u84 u85 u86 u87 u88 : Value) (Q : Exit → Act → World → Prop) (w W0 : World) (ds : List Deferred) (gp g3 g4 N c3 c4 B : Nat) (v36 : Value) (S : List S60 → Prop) (k : Nat)
    (hseq : SeqStopsK Fence.wide 8 Try.prog 51 #[.pointer (some ⟨B, 0, none⟩), .pointer (some ⟨B + 1, 0, none⟩), .pointer (some ⟨B + 2, 0, none⟩)] (fun x : {x : S60 // GoodSeat N x} => seatV x.1) (Kp27 w.heap.size B) (fun ys => S (ys.map (·.1))) (fun _ => True) k W0)
    (hk : k ≤ 1000) (hN : N ≤ 64) (hw : w.heap.size ≤ W0.heap.size) (hB : B + 3 ≤ W0.heap.size) (hBw : w.heap.size ≤ B) (hgp : w.heap.size ≤ gp) (hg3 : w.heap.size ≤ g3) (hg4 : w.heap.size ≤ g4) (hgpB : gp < B) (hg3B : g3 < B) (hg4B : g4 < B) (h34 : g3 ≠ g4)
    (h0 : LoopAt w W0 gp g3 g4 N c3 c4 v36 [] W0)
    (hdone : ∀ (D : Nat) (l : List S60) (W : World), W0.heap.size ≤ D → S l → (∀ x ∈ l, GoodSeat N x) → LoopAt w W0 gp g3 g4 N c3 c4 v36 l W → W.heap[D]? = some (.deferred (some [])) → Q .normal { tmps := #[u0, u1, u2, u3, u4, u5, u6, .pointer (some ⟨gp, 0, none⟩), u8, u9, u10, u11, u12, u13, u14, u15, u16, u17, u18, u19, u20, u21, u22, u23, u24, u25, u26, u27, u28, u29, u30, u31, u32, u33, u34, u35, u36, u37, u38, u39, u40, u41, u42, u43, u44, u45, u46, .func (.func 51) #[] #[.pointer (some ⟨B, 0, none⟩), .pointer (some ⟨B + 1, 0, none⟩), .pointer (some ⟨B + 2, 0, none⟩)], u48, u49, u50, u51, u52, u53, u54, u55, u56, u57, u58, u59, u60, u61, u62, u63, u64, u65, u66, u67, u68, u69, u70, u71, u72, u73, u74, u75, u76, u77, u78, u79, u80, u81, u82, u83, u84, u85, u86, u87, u88], defers := { target := .collected D, args := #[] } :: ds } W) :
    c.wp Try.prog Q { tmps := #[u0, u1, u2, u3, u4, u5, u6, .pointer (some ⟨gp, 0, none⟩), u8, u9, u10, u11, u12, u13, u14, u15, u16, u17, u18, u19, u20, u21, u22, u23, u24, u25, u26, u27, u28, u29, u30, u31, u32, u33, u34, u35, u36, u37, u38, u39, u40, u41, u42, u43, u44, u45, u46, .func (.func 51) #[] #[.pointer (some ⟨B, 0, none⟩), .pointer (some ⟨B + 1, 0, none⟩), .pointer (some ⟨B + 2, 0, none⟩)], u48, u49, u50, u51, u52, u53, u54, u55, u56, u57, u58, u59, u60, u61, u62, u63, u64, u65, u66, u67, u68, u69, u70, u71, u72, u73, u74, u75, u76, u77, u78, u79, u80, u81, u82, u83, u84, u85, u86, u87, u88], defers := ds } W0 := by
  obtain rfl := Option.some.inj ((show (Try.f16.body.bind findRange) = some _ from rfl).symm.trans hcode)
  refine wpIn_wide.1 (wpIn_rangeFunc_ownH (α := {x : S60 // GoodSeat N x}) (n := 9) (w := W0) rfl (by omega) (gf := 51) (lb := #[.pointer (some ⟨B, 0, none⟩), .pointer (some ⟨B + 1, 0, none⟩), .pointer (some ⟨B + 2, 0, none⟩)]) rfl trivial (enters_of Try.func51 (by kernel_rfl) rfl)
    hseq (fun h k => Kp27.trans h k) ?hKb (Below.refl _ _) (fun _ => rfl)
    (fun pre W => LoopAt w W0 gp g3 g4 N c3 c4 v36 (pre.map (·.1)) W) (fun _ _ _ => False)
    (by intro s W W1 row h hg hr; exact LoopAt.grown hw h hg hr) (fun _ _ _ _ _ hs _ _ => hs) h0
    (fun x a' W => ∃ gx, W0.heap.size ≤ gx ∧ W.heap[gx]? = some (.cells #[.int .i64 x.1.f0, .int .i64 x.1.f1, .int .i64 x.1.f2, .int .i64 x.1.f3] 60 (0, 0)) ∧ (∃ vs, W.heap[gp]? = some (.cells #[v36, vs, .slice (some ⟨g3, 0, none⟩) N c3, .slice (some ⟨g4, 0, none⟩) N c4] 38 (0, 0)) ∧ some gx ≠ vs.ownBlock) ∧
      a' = { tmps := #[u0, u1, u2, u3, u4, u5, u6, .pointer (some ⟨gp, 0, none⟩), .pointer (some ⟨gx, 0, none⟩), u9, u10, u11, u12, u13, u14, u15, u16, u17, u18, u19, u20, u21, u22, u23, u24, u25, u26, u27, u28, u29, u30, u31, u32, u33, u34, u35, u36, u37, u38, u39, u40, u41, u42, u43, u44, u45, u46, .func (.func 51) #[] #[.pointer (some ⟨B, 0, none⟩), .pointer (some ⟨B + 1, 0, none⟩), .pointer (some ⟨B + 2, 0, none⟩)], .agg #[.int .i64 x.1.f0, .int .i64 x.1.f1, .int .i64 x.1.f2, .int .i64 x.1.f3], u49, u50, u51, u52, u53, u54, u55, u56, u57, u58, u59, u60, u61, u62, u63, u64, u65, u66, u67, u68, u69, u70, u71, u72, u73, u74, u75, u76, u77, u78, u79, u80, u81, u82, u83, u84, u85, u86, u87, u88], defers := [] }) ?hAx ?assign ?body ?done ?stop)
  case hKb =>
    intro W l o o' hl ho hoc _
    refine ⟨belowK_b (w := W0) (by omega) W l o o' hl ho hoc (by assumption), fun i o1 hi hor => ?_⟩
    refine ((grownBy_putObj' W l o').block i (blk_lt hi) (fun e => ?_)).trans hi
    obtain rfl : i = l := by simpa using e
    rcases hor with h | ⟨cs, fr, rfl⟩
    · omega
    · rw [hi] at ho; cases ho; cases hoc
  case hAx =>
    rintro x a' _ X Y row ⟨gx, h1, h2, ⟨vs, h3, h4⟩, h5⟩ hg hr
    have ne : ∀ (g : Nat) (o : Obj), X.heap[g]? = some o → o.isCells = true → some g ≠ row := fun g o ho hc e => by
      obtain ⟨_, o', ho', hc'⟩ := hr g e.symm
      rw [ho] at ho'
      cases ho'
      rw [hc] at hc'
      cases hc'
    exact ⟨gx, h1, blk_grown h2 hg (ne gx _ h2 rfl), ⟨vs, blk_grown h3 hg (ne gp _ h3 rfl), h4⟩, h5⟩
  case assign =>
    rintro l pre x W K hI hK
    have hu60 := Try.underlying60
    simp only [seatV]
    gi_wp2
    obtain ⟨vs, hp, hs, h3, h4, hb, hz, hkk⟩ := hI
    refine hK _ _ ((KeepsOthers.alloc W _).from _) ⟨(Below.refl _ W).alloc (by have := hb.size; omega) _, fun i o hi _ => blk_alloc hi _⟩ (LoopAt.grown hw ⟨vs, hp, hs, h3, h4, hb, hz, hkk⟩ (World.grownBy_alloc W _ none) (fun r e => by cases e)) ⟨W.heap.size, hz, blk_new W _, ⟨vs, blk_alloc hp _, fun e => ?_⟩, rfl⟩
    have := own_lt hs W.heap.size e.symm
    omega
  case body =>
    clear hcode hdone h0 hseq
    rintro l pre x a' W hl ⟨r, hr⟩ hI ⟨gx, hgx, hbx, ⟨vs, hv1, hv2⟩, rfl⟩ hlt
    have hu60 := Try.underlying60
    have hu38 := Try.underlying38
    obtain ⟨vs', hp, hs, h3, h4, hb, hz, hkk⟩ := hI
    obtain rfl : vs' = vs := by
      rw [hp] at hv1
      simpa using hv1
    obtain ⟨x, hx⟩ := x
    simp only at hbx
    obtain ⟨x1, x2, x3, x4, x5, x6⟩ := hx
    rw [List.length_map] at hs
    have HP := Aside0.mk hp
    have HS := Aside0.mk hs
    have H3 := Aside0.mk h3
    have H4 := Aside0.mk h4
    have HB := Aside0.mk hb
    have HZ := Aside0.mk hz
    have HKK := Aside0.mk hkk
    have HX := Aside0.mk hbx
    have HNE := Aside0.mk hv2
    clear hp hs h3 h4 hb hz hkk hv1 hv2 hr
    have p1 : W.cell? ⟨gp, 1, none⟩ = some vs' := (blk_cell HP.out 1).trans rfl
    have q0 : W.cell? ⟨gx, 0, none⟩ = some (.int .i64 x.f0) := (blk_cell hbx 0).trans rfl
    have q1 : W.cell? ⟨gx, 1, none⟩ = some (.int .i64 x.f1) := (blk_cell hbx 1).trans rfl
    have q2 : W.cell? ⟨gx, 2, none⟩ = some (.int .i64 x.f2) := (blk_cell hbx 2).trans rfl
    have q3 : W.cell? ⟨gx, 3, none⟩ = some (.int .i64 x.f3) := (blk_cell hbx 3).trans rfl
    clear hbx
    obtain ⟨i0, hi, hz0, hz1, hz2⟩ := info_parts infoS60
    have hB1 := HB.out.size
    have hZ1 := HZ.out
    gi_wp2_with (first | (gi_at_builtin; refine wpListIn_append_own _ rfl _ _ 36 rfl W0.heap.size 60 i0 (.agg #[.int .i64 0, .int .i64 0, .int .i64 0, .int .i64 0]) 4 32 Try.underlying36 hi hz0 hz1 hz2 rfl (by decide) _ _ _ rfl (HS.out.alloc _) ⟨W.heap.size, 0, none⟩ 1 1 [.int .i64 x.f0, .int .i64 x.f1, .int .i64 x.f2, .int .i64 x.f3] rfl rfl (cells_new4 _ _ _ _ _ _) (by simp [Value.oneCell']) (by unfold maxLen; omega) (by omega) (by simp; omega) ?_; intro v' w1 hown' hgrow _; obtain ⟨g', cap', rfl⟩ := ownsRow_succ hown'; have P1 := Aside0.mk (blk_grown (blk_alloc HP.out _) hgrow (own_ne HS.out HP.out (by decide))); have pf := blk_frozen P1.out 1; have pc : w1.cell? ⟨gp, 1, none⟩ = some vs' := (blk_cell P1.out 1).trans rfl; have HG1 := Aside0.mk hgrow; have HO1 := Aside0.mk hown'; clear hgrow hown'))
    have P2 := Aside0.mk (blk_put P1.out 1 (.slice (some ⟨g', 0, none⟩) (pre.length + 1) cap') rfl)
    have S2 := Aside0.mk (own_setCell (p := ⟨gp, 1, none⟩) HO1.out (own_ne HO1.out P1.out (by decide)) (.slice (some ⟨g', 0, none⟩) (pre.length + 1) cap'))
    have r3 := (H3.out.alloc (.cells #[.int .i64 x.f0, .int .i64 x.f1, .int .i64 x.f2, .int .i64 x.f3] 60)).kept HG1.out (own_type_ne H3.out HS.out (by decide))
    have r4 := (H4.out.alloc (.cells #[.int .i64 x.f0, .int .i64 x.f1, .int .i64 x.f2, .int .i64 x.f3] 60)).kept HG1.out (own_type_ne H4.out HS.out (by decide))
    have R3 := Aside0.mk (own_setCell (p := ⟨gp, 1, none⟩) r3 (own_ne r3 P1.out (by decide)) (.slice (some ⟨g', 0, none⟩) (pre.length + 1) cap'))
    have R4 := Aside0.mk (own_setCell (p := ⟨gp, 1, none⟩) r4 (own_ne r4 P1.out (by decide)) (.slice (some ⟨g', 0, none⟩) (pre.length + 1) cap'))
    have X2 := Aside0.mk (blk_far (p := ⟨gp, 1, none⟩) (blk_grown (blk_alloc HX.out _) HG1.out HNE.out) (by simp only; omega) (.slice (some ⟨g', 0, none⟩) (pre.length + 1) cap'))
    have Z2 := Aside0.mk (show W.heap.size ≤ (w1.setCell ⟨gp, 1, none⟩ (.slice (some ⟨g', 0, none⟩) (pre.length + 1) cap')).heap.size by have := HG1.out.size; simp at this ⊢; omega)
    have B2 := Aside0.mk (show Below w.heap.size W (w1.setCell ⟨gp, 1, none⟩ (.slice (some ⟨g', 0, none⟩) (pre.length + 1) cap')) from (((Below.refl _ _).alloc hB1 _).grown HG1.out (by simp; omega) (fun j e => by have := own_base HS.out j e; omega)).setCell (p := ⟨gp, 1, none⟩) hgp _)
    have K2 := Aside0.mk (show ∀ i o, W.heap[i]? = some o → i ≠ gp → some i ≠ vs'.ownBlock → (w1.setCell ⟨gp, 1, none⟩ (.slice (some ⟨g', 0, none⟩) (pre.length + 1) cap')).heap[i]? = some o from fun i o hi h1 h2 => (Below.heap_setCell _ _ _ i h1).trans (blk_grown (blk_alloc hi _) HG1.out h2))
    clear pc pf p1 q0 q1 q2 q3 P1 HG1 HO1 r3 r4
    generalize w1.setCell ⟨gp, 1, none⟩ (.slice (some ⟨g', 0, none⟩) (pre.length + 1) cap') = W2 at P2 S2 R3 R4 X2 Z2 B2 K2 ⊢
    have hgood : ∀ y : S60, y ∈ pre.map (·.1) → 0 ≤ y.f2 ∧ y.f2 < (N : Int) ∧ 1 ≤ y.f1 ∧ y.f1 ≤ 10000 := fun y hy => by
      obtain ⟨z, _, rfl⟩ := List.mem_map.1 hy
      obtain ⟨z1, z2, z3, z4, z5, z6⟩ := z.2
      exact ⟨z3, z4, z1, z2⟩
    have hgood' : ∀ y : S60, y ∈ pre.map (·.1) → 0 ≤ y.f3 ∧ y.f3 < (N : Int) ∧ 1 ≤ y.f1 ∧ y.f1 ≤ 10000 := fun y hy => by
      obtain ⟨z, _, rfl⟩ := List.mem_map.1 hy
      obtain ⟨z1, z2, z3, z4, z5, z6⟩ := z.2
      exact ⟨z5, z6, z1, z2⟩
    obtain ⟨bl, bb⟩ := loads_bound (·.f2) N (pre.map (·.1)) hgood
    obtain ⟨bl', bb'⟩ := loads_bound (·.f3) N (pre.map (·.1)) hgood'
    have b3 := bb x.f2 x3
    have b4 := bb' x.f3 x5
    simp only [List.length_map] at b3 b4
    have BL := Aside0.mk (show (loadsF N (pre.map (·.1))).length = N from bl)
    have BL' := Aside0.mk (show (loadsS N (pre.map (·.1))).length = N from bl')
    change 0 ≤ rd (loadsF N (pre.map (·.1))) x.f2 ∧ rd (loadsF N (pre.map (·.1))) x.f2 ≤ _ at b3
    change 0 ≤ rd (loadsS N (pre.map (·.1))) x.f3 ∧ rd (loadsS N (pre.map (·.1))) x.f3 ≤ _ at b4
    clear bl bb bl' bb' hgood hgood'
    have LF := Aside0.mk (loadsF_snoc N (pre.map (·.1)) x)
    have LS := Aside0.mk (loadsS_snoc N (pre.map (·.1)) x)
    generalize hF : loadsF N (pre.map (·.1)) = F at R3 BL b3 LF
    generalize hS : loadsS N (pre.map (·.1)) = G at R4 BL' b4 LS
    clear hF hS
    have d2 : W2.cell? ⟨gp, 2, none⟩ = some (.slice (some ⟨g3, 0, none⟩) N c3) := (blk_cell P2.out 2).trans rfl
    have q1 : W2.cell? ⟨gx, 1, none⟩ = some (.int .i64 x.f1) := (blk_cell X2.out 1).trans rfl
    have q2 : W2.cell? ⟨gx, 2, none⟩ = some (.int .i64 x.f2) := (blk_cell X2.out 2).trans rfl
    have e3 : W2.cell? ⟨g3, x.f2.toNat, none⟩ = some (.int .i64 (rd F x.f2)) := by
      have := R3.out.cells (g := g3) rfl x.f2.toNat (.int .i64 (rd F x.f2)) (by have := BL.out; simp only [nums, rd]; rw [List.getElem?_map, List.getElem?_eq_getElem (by omega), List.getD_eq_getElem?_getD, List.getElem?_eq_getElem (by omega)]; rfl)
      rwa [add_plain] at this
    have f3 := R3.out.frozenAt x.f2.toNat
    clear d2 q1 q2 e3 f3
    have U1 := Aside0.mk (show wrap64 (rd F x.f2 + x.f1) = rd F x.f2 + x.f1 by have h1_ := b3; have h2_ := b4; unfold wrap64; omega)
    have U2 := Aside0.mk (show wrap64 (rd G x.f3 + x.f1) = rd G x.f3 + x.f1 by have h1_ := b3; have h2_ := b4; unfold wrap64; omega)
    have ne3 : gp ≠ g3 := fun e => own_ne R3.out P2.out (by decide) (by rw [e]; rfl)
    have ne4 : gp ≠ g4 := fun e => own_ne R4.out P2.out (by decide) (by rw [e]; rfl)
    have nx3 : gx ≠ g3 := by omega
    have nx4 : gx ≠ g4 := by omega
    have BL1 := BL.out
    have BL2 := BL'.out
    clear b3 b4
    have A2 := R3
    have C2 := R4
    clear R3 R4
    replace K2 := Aside0.mk (show ∀ i o, W.heap[i]? = some o → i ≠ gp → some i ≠ vs'.ownBlock → i ≠ g3 → i ≠ g4 → W2.heap[i]? = some o from fun i o h1 h2 h3 _ _ => K2.out i o h1 h2 h3)
    have d_2 : W2.drew.cell? ⟨gp, 2, none⟩ = some (.slice (some ⟨g3, 0, none⟩) N c3) := (blk_cell (blk_drew P2.out) 2).trans rfl
    have q1_2 : W2.drew.cell? ⟨gx, 1, none⟩ = some (.int .i64 x.f1) := (blk_cell (blk_drew X2.out) 1).trans rfl
    have q2_2 : W2.drew.cell? ⟨gx, 2, none⟩ = some (.int .i64 x.f2) := (blk_cell (blk_drew X2.out) 2).trans rfl
    obtain ⟨e_2, f_2⟩ := own_at (own_drew A2.out) x.f2 x3 x4
    refine startIn_ (k := 11) (S := fun w' => w'.cell? ⟨gp, 2, none⟩ = some (.slice (some ⟨g3, 0, none⟩) N c3) ∧ w'.cell? ⟨gx, 2, none⟩ = some (.int .i64 x.f2) ∧ w'.cell? ⟨g3, x.f2.toNat, none⟩ = some (.int .i64 (rd F x.f2)) ∧ w'.cell? ⟨gx, 1, none⟩ = some (.int .i64 x.f1)) (ds := [10]) #[false, false, false, false, false, false, false, false, false, false, false] (by kernel_rfl) rfl rfl (by kernel_rfl) ⟨d_2, q2_2, e_2, q1_2⟩ (fun hHeld => ?_)
    replace P2 := Aside0.mk (blk_drew P2.out)
    replace S2 := Aside0.mk (own_drew S2.out)
    replace A2 := Aside0.mk (own_drew A2.out)
    replace C2 := Aside0.mk (own_drew C2.out)
    replace X2 := Aside0.mk (blk_drew X2.out)
    replace Z2 := Aside0.mk (show W.heap.size ≤ W2.drew.heap.size from Z2.out)
    replace B2 := Aside0.mk (show Below w.heap.size W W2.drew from below_drew1 B2.out)
    replace K2 := Aside0.mk (show ∀ i o, W.heap[i]? = some o → i ≠ gp → some i ≠ vs'.ownBlock → i ≠ g3 → i ≠ g4 → W2.drew.heap[i]? = some o from K2.out)
    generalize W2.drew = W3 at P2 S2 A2 C2 X2 Z2 B2 K2 d_2 q1_2 q2_2 e_2 f_2 hHeld ⊢
    refine pure_ (i := 0) (N := some 55) (v := ?_) (a' := ?_) #[true, false, false, false, false, false, false, false, false, false, false] rfl rfl (by kernel_rfl) (fun _ _ _ h => h) (Or.inl ⟨by rfl, ?_⟩) ?_ ?_
    rotate_left
    · intro w'
      go_simp
      with_reducible rfl
    rotate_left
    · simp only [Act.put, List.setIfInBounds_toArray, List.set_cons_zero, List.set_cons_succ, i64_w, i32_w]
      rfl
    refine take_ (i := 1) (N := some 56) (v := ?_) (a' := ?_) #[true, true, false, false, false, false, false, false, false, false, false] rfl rfl (by kernel_rfl) (fun _ _ _ h => h) (Or.inl ⟨by rfl, ?_⟩) hHeld ?_ ?_
    rotate_left
    · rintro w' ⟨s0, s1, s2, s3⟩
      go_simp
      with_reducible rfl
    rotate_left
    · simp only [Act.put, List.setIfInBounds_toArray, List.set_cons_zero, List.set_cons_succ, i64_w, i32_w]
      rfl
    refine pure_ (i := 2) (N := some 57) (v := ?_) (a' := ?_) #[true, true, true, false, false, false, false, false, false, false, false] rfl rfl (by kernel_rfl) (fun _ _ _ h => h) (Or.inl ⟨by rfl, ?_⟩) ?_ ?_
    rotate_left
    · intro w'
      go_simp
      with_reducible rfl
    rotate_left
    · simp only [Act.put, List.setIfInBounds_toArray, List.set_cons_zero, List.set_cons_succ, i64_w, i32_w]
      rfl
    refine take_ (i := 3) (N := some 58) (v := ?_) (a' := ?_) #[true, true, true, true, false, false, false, false, false, false, false] rfl rfl (by kernel_rfl) (fun _ _ _ h => h) (Or.inl ⟨by rfl, ?_⟩) hHeld ?_ ?_
    rotate_left
    · rintro w' ⟨s0, s1, s2, s3⟩
      go_simp
      with_reducible rfl
    rotate_left
    · simp only [Act.put, List.setIfInBounds_toArray, List.set_cons_zero, List.set_cons_succ, i64_w, i32_w]
      rfl
    refine pure_ (i := 4) (N := some 59) (v := ?_) (a' := ?_) #[true, true, true, true, true, false, false, false, false, false, false] rfl rfl (by kernel_rfl) (fun _ _ _ h => h) (Or.inl ⟨by rfl, ?_⟩) ?_ ?_
    rotate_left
    · intro w'
      go_simp
      with_reducible rfl
    rotate_left
    · simp only [Act.put, List.setIfInBounds_toArray, List.set_cons_zero, List.set_cons_succ, i64_w, i32_w]
      rfl
    refine take_ (i := 5) (N := some 60) (v := ?_) (a' := ?_) #[true, true, true, true, true, true, false, false, false, false, false] rfl rfl (by kernel_rfl) (fun _ _ _ h => h) (Or.inl ⟨by rfl, ?_⟩) hHeld ?_ ?_
    rotate_left
    · rintro w' ⟨s0, s1, s2, s3⟩
      go_simp
      with_reducible rfl
    rotate_left
    · simp only [Act.put, List.setIfInBounds_toArray, List.set_cons_zero, List.set_cons_succ, i64_w, i32_w]
      rfl
    refine pure_ (i := 6) (N := some 61) (v := ?_) (a' := ?_) #[true, true, true, true, true, true, true, false, false, false, false] rfl rfl (by kernel_rfl) (fun _ _ _ h => h) (Or.inl ⟨by rfl, ?_⟩) ?_ ?_
    rotate_left
    · intro w'
      go_simp
      with_reducible rfl
    rotate_left
    · simp only [Act.put, List.setIfInBounds_toArray, List.set_cons_zero, List.set_cons_succ, i64_w, i32_w]
      rfl
    refine take_ (i := 7) (N := some 62) (v := ?_) (a' := ?_) #[true, true, true, true, true, true, true, true, false, false, false] rfl rfl (by kernel_rfl) (fun _ _ _ h => h) (Or.inl ⟨by rfl, ?_⟩) hHeld ?_ ?_
    rotate_left
    · rintro w' ⟨s0, s1, s2, s3⟩
      go_simp
      with_reducible rfl
    rotate_left
    · simp only [Act.put, List.setIfInBounds_toArray, List.set_cons_zero, List.set_cons_succ, i64_w, i32_w]
      rfl
    refine pure_ (i := 8) (N := some 63) (v := ?_) (a' := ?_) #[true, true, true, true, true, true, true, true, true, false, false] rfl rfl (by kernel_rfl) (fun _ _ _ h => h) (Or.inl ⟨by rfl, ?_⟩) ?_ ?_
    rotate_left
    · intro w'
      go_simp
      with_reducible rfl
    rotate_left
    · simp only [Act.put, List.setIfInBounds_toArray, List.set_cons_zero, List.set_cons_succ, i64_w, i32_w]
      rfl
    refine pure_ (i := 9) (N := some 64) (v := ?_) (a' := ?_) #[true, true, true, true, true, true, true, true, true, true, false] rfl rfl (by kernel_rfl) (fun _ _ _ h => h) (Or.inl ⟨by rfl, ?_⟩) ?_ ?_
    rotate_left
    · intro w'
      go_simp
      with_reducible rfl
    rotate_left
    · simp only [Act.put, List.setIfInBounds_toArray, List.set_cons_zero, List.set_cons_succ, i64_w, i32_w]
      rfl
    refine last_ (i := 10) (N := none) #[true, true, true, true, true, true, true, true, true, true, true] rfl rfl (by kernel_rfl) (by decide) (fun K hK => ?_)
    refine skip_ (w1 := ?_) (by rfl) rfl ?_ ?_
    rotate_left
    · go_simp
      rfl
    refine hK.out _ _ ?_
    clear hK K
    refine done_ (by kernel_rfl) ?_
    skip
    have P2b := Aside0.mk (blk_far (p := ⟨g3, x.f2.toNat, none⟩) P2.out ne3 (.int .i64 (wrap64 (rd F x.f2 + x.f1))))
    have S2b := Aside0.mk (own_setCell (p := ⟨g3, x.f2.toNat, none⟩) S2.out (fun e => by have h1 := own_type_ne S2.out A2.out (by decide); rcases h1 with h1 | h1; (rw [h1] at e; cases e); exact h1 (e.symm.trans rfl)) (.int .i64 (wrap64 (rd F x.f2 + x.f1))))
    have A2b := Aside0.mk (by have := (own_store A2.out x.f2 (wrap64 (rd F x.f2 + x.f1))).1; exact this)
    have C2b := Aside0.mk (own_setCell (p := ⟨g3, x.f2.toNat, none⟩) C2.out (fun e => h34 (by simpa [Value.ownBlock] using e)) (.int .i64 (wrap64 (rd F x.f2 + x.f1))))
    have X2b := Aside0.mk (blk_far (p := ⟨g3, x.f2.toNat, none⟩) X2.out nx3 (.int .i64 (wrap64 (rd F x.f2 + x.f1))))
    have Z2b := Aside0.mk (show W.heap.size ≤ (W3.setCell ⟨g3, x.f2.toNat, none⟩ (.int .i64 (wrap64 (rd F x.f2 + x.f1)))).heap.size by simpa using Z2.out)
    have B2b := Aside0.mk (B2.out.setCell (p := ⟨g3, x.f2.toNat, none⟩) hg3 (.int .i64 (wrap64 (rd F x.f2 + x.f1))))
    have K2b := Aside0.mk (show ∀ i o, W.heap[i]? = some o → i ≠ gp → some i ≠ vs'.ownBlock → i ≠ g3 → i ≠ g4 → (W3.setCell ⟨g3, x.f2.toNat, none⟩ (.int .i64 (wrap64 (rd F x.f2 + x.f1)))).heap[i]? = some o from fun i o h1 h2 h3 h4 h5 => (Below.heap_setCell _ _ _ i (by assumption)).trans (K2.out i o h1 h2 h3 h4 h5))
    clear P2 S2 A2 C2 X2 Z2 B2 K2 d_2 q1_2 q2_2 e_2 f_2 hHeld
    generalize W3.setCell ⟨g3, x.f2.toNat, none⟩ (.int .i64 (wrap64 (rd F x.f2 + x.f1))) = W4 at P2b S2b A2b C2b X2b Z2b B2b K2b ⊢
    simp only [OnlyNormal]
    gi_wp2
    have d_2b : W4.drew.cell? ⟨gp, 3, none⟩ = some (.slice (some ⟨g4, 0, none⟩) N c4) := (blk_cell (blk_drew P2b.out) 3).trans rfl
    have q1_2b : W4.drew.cell? ⟨gx, 1, none⟩ = some (.int .i64 x.f1) := (blk_cell (blk_drew X2b.out) 1).trans rfl
    have q2_2b : W4.drew.cell? ⟨gx, 3, none⟩ = some (.int .i64 x.f3) := (blk_cell (blk_drew X2b.out) 3).trans rfl
    obtain ⟨e_2b, f_2b⟩ := own_at (own_drew C2b.out) x.f3 x5 x6
    refine startIn_ (k := 11) (S := fun w' => w'.cell? ⟨gp, 3, none⟩ = some (.slice (some ⟨g4, 0, none⟩) N c4) ∧ w'.cell? ⟨gx, 3, none⟩ = some (.int .i64 x.f3) ∧ w'.cell? ⟨g4, x.f3.toNat, none⟩ = some (.int .i64 (rd G x.f3)) ∧ w'.cell? ⟨gx, 1, none⟩ = some (.int .i64 x.f1)) (ds := [10]) #[false, false, false, false, false, false, false, false, false, false, false] (by kernel_rfl) rfl rfl (by kernel_rfl) ⟨d_2b, q2_2b, e_2b, q1_2b⟩ (fun hHeld => ?_)
    replace P2b := Aside0.mk (blk_drew P2b.out)
    replace S2b := Aside0.mk (own_drew S2b.out)
    replace A2b := Aside0.mk (own_drew A2b.out)
    replace C2b := Aside0.mk (own_drew C2b.out)
    replace X2b := Aside0.mk (blk_drew X2b.out)
    replace Z2b := Aside0.mk (show W.heap.size ≤ W4.drew.heap.size from Z2b.out)
    replace B2b := Aside0.mk (show Below w.heap.size W W4.drew from below_drew1 B2b.out)
    replace K2b := Aside0.mk (show ∀ i o, W.heap[i]? = some o → i ≠ gp → some i ≠ vs'.ownBlock → i ≠ g3 → i ≠ g4 → W4.drew.heap[i]? = some o from K2b.out)
    generalize W4.drew = W5 at P2b S2b A2b C2b X2b Z2b B2b K2b d_2b q1_2b q2_2b e_2b f_2b hHeld ⊢
    refine pure_ (i := 0) (N := some 65) (v := ?_) (a' := ?_) #[true, false, false, false, false, false, false, false, false, false, false] rfl rfl (by kernel_rfl) (fun _ _ _ h => h) (Or.inl ⟨by rfl, ?_⟩) ?_ ?_
    rotate_left
    · intro w'
      go_simp
      with_reducible rfl
    rotate_left
    · simp only [Act.put, List.setIfInBounds_toArray, List.set_cons_zero, List.set_cons_succ, i64_w, i32_w]
      rfl
    refine take_ (i := 1) (N := some 66) (v := ?_) (a' := ?_) #[true, true, false, false, false, false, false, false, false, false, false] rfl rfl (by kernel_rfl) (fun _ _ _ h => h) (Or.inl ⟨by rfl, ?_⟩) hHeld ?_ ?_
    rotate_left
    · rintro w' ⟨s0, s1, s2, s3⟩
      go_simp
      with_reducible rfl
    rotate_left
    · simp only [Act.put, List.setIfInBounds_toArray, List.set_cons_zero, List.set_cons_succ, i64_w, i32_w]
      rfl
    refine pure_ (i := 2) (N := some 67) (v := ?_) (a' := ?_) #[true, true, true, false, false, false, false, false, false, false, false] rfl rfl (by kernel_rfl) (fun _ _ _ h => h) (Or.inl ⟨by rfl, ?_⟩) ?_ ?_
    rotate_left
    · intro w'
      go_simp
      with_reducible rfl
    rotate_left
    · simp only [Act.put, List.setIfInBounds_toArray, List.set_cons_zero, List.set_cons_succ, i64_w, i32_w]
      rfl
    refine take_ (i := 3) (N := some 68) (v := ?_) (a' := ?_) #[true, true, true, true, false, false, false, false, false, false, false] rfl rfl (by kernel_rfl) (fun _ _ _ h => h) (Or.inl ⟨by rfl, ?_⟩) hHeld ?_ ?_
    rotate_left
    · rintro w' ⟨s0, s1, s2, s3⟩
      go_simp
      with_reducible rfl
    rotate_left
    · simp only [Act.put, List.setIfInBounds_toArray, List.set_cons_zero, List.set_cons_succ, i64_w, i32_w]
      rfl
    refine pure_ (i := 4) (N := some 69) (v := ?_) (a' := ?_) #[true, true, true, true, true, false, false, false, false, false, false] rfl rfl (by kernel_rfl) (fun _ _ _ h => h) (Or.inl ⟨by rfl, ?_⟩) ?_ ?_
    rotate_left
    · intro w'
      go_simp
      with_reducible rfl
    rotate_left
    · simp only [Act.put, List.setIfInBounds_toArray, List.set_cons_zero, List.set_cons_succ, i64_w, i32_w]
      rfl
    refine take_ (i := 5) (N := some 70) (v := ?_) (a' := ?_) #[true, true, true, true, true, true, false, false, false, false, false] rfl rfl (by kernel_rfl) (fun _ _ _ h => h) (Or.inl ⟨by rfl, ?_⟩) hHeld ?_ ?_
    rotate_left
    · rintro w' ⟨s0, s1, s2, s3⟩
      go_simp
      with_reducible rfl
    rotate_left
    · simp only [Act.put, List.setIfInBounds_toArray, List.set_cons_zero, List.set_cons_succ, i64_w, i32_w]
      rfl
    refine pure_ (i := 6) (N := some 71) (v := ?_) (a' := ?_) #[true, true, true, true, true, true, true, false, false, false, false] rfl rfl (by kernel_rfl) (fun _ _ _ h => h) (Or.inl ⟨by rfl, ?_⟩) ?_ ?_
    rotate_left
    · intro w'
      go_simp
      with_reducible rfl
    rotate_left
    · simp only [Act.put, List.setIfInBounds_toArray, List.set_cons_zero, List.set_cons_succ, i64_w, i32_w]
      rfl
    refine take_ (i := 7) (N := some 72) (v := ?_) (a' := ?_) #[true, true, true, true, true, true, true, true, false, false, false] rfl rfl (by kernel_rfl) (fun _ _ _ h => h) (Or.inl ⟨by rfl, ?_⟩) hHeld ?_ ?_
    rotate_left
    · rintro w' ⟨s0, s1, s2, s3⟩
      go_simp
      with_reducible rfl
    rotate_left
    · simp only [Act.put, List.setIfInBounds_toArray, List.set_cons_zero, List.set_cons_succ, i64_w, i32_w]
      rfl
    refine pure_ (i := 8) (N := some 73) (v := ?_) (a' := ?_) #[true, true, true, true, true, true, true, true, true, false, false] rfl rfl (by kernel_rfl) (fun _ _ _ h => h) (Or.inl ⟨by rfl, ?_⟩) ?_ ?_
    rotate_left
    · intro w'
      go_simp
      with_reducible rfl
    rotate_left
    · simp only [Act.put, List.setIfInBounds_toArray, List.set_cons_zero, List.set_cons_succ, i64_w, i32_w]
      rfl
    refine pure_ (i := 9) (N := some 74) (v := ?_) (a' := ?_) #[true, true, true, true, true, true, true, true, true, true, false] rfl rfl (by kernel_rfl) (fun _ _ _ h => h) (Or.inl ⟨by rfl, ?_⟩) ?_ ?_
    rotate_left
    · intro w'
      go_simp
      with_reducible rfl
    rotate_left
    · simp only [Act.put, List.setIfInBounds_toArray, List.set_cons_zero, List.set_cons_succ, i64_w, i32_w]
      rfl
    refine last_ (i := 10) (N := none) #[true, true, true, true, true, true, true, true, true, true, true] rfl rfl (by kernel_rfl) (by decide) (fun K hK => ?_)
    refine skip_ (w1 := ?_) (by rfl) rfl ?_ ?_
    rotate_left
    · go_simp
      rfl
    refine hK.out _ _ ?_
    clear hK K
    refine done_ (by kernel_rfl) ?_
    skip
    have P2bb := Aside0.mk (blk_far (p := ⟨g4, x.f3.toNat, none⟩) P2b.out ne4 (.int .i64 (wrap64 (rd G x.f3 + x.f1))))
    have S2bb := Aside0.mk (own_setCell (p := ⟨g4, x.f3.toNat, none⟩) S2b.out (fun e => by have h1 := own_type_ne S2b.out C2b.out (by decide); rcases h1 with h1 | h1; (rw [h1] at e; cases e); exact h1 (e.symm.trans rfl)) (.int .i64 (wrap64 (rd G x.f3 + x.f1))))
    have A2bb := Aside0.mk (own_setCell (p := ⟨g4, x.f3.toNat, none⟩) A2b.out (fun e => h34 (by simpa [Value.ownBlock] using e.symm)) (.int .i64 (wrap64 (rd G x.f3 + x.f1))))
    have C2bb := Aside0.mk (by have := (own_store C2b.out x.f3 (wrap64 (rd G x.f3 + x.f1))).1; exact this)
    have X2bb := Aside0.mk (blk_far (p := ⟨g4, x.f3.toNat, none⟩) X2b.out nx4 (.int .i64 (wrap64 (rd G x.f3 + x.f1))))
    have Z2bb := Aside0.mk (show W.heap.size ≤ (W5.setCell ⟨g4, x.f3.toNat, none⟩ (.int .i64 (wrap64 (rd G x.f3 + x.f1)))).heap.size by simpa using Z2b.out)
    have B2bb := Aside0.mk (B2b.out.setCell (p := ⟨g4, x.f3.toNat, none⟩) hg4 (.int .i64 (wrap64 (rd G x.f3 + x.f1))))
    have K2bb := Aside0.mk (show ∀ i o, W.heap[i]? = some o → i ≠ gp → some i ≠ vs'.ownBlock → i ≠ g3 → i ≠ g4 → (W5.setCell ⟨g4, x.f3.toNat, none⟩ (.int .i64 (wrap64 (rd G x.f3 + x.f1)))).heap[i]? = some o from fun i o h1 h2 h3 h4 h5 => (Below.heap_setCell _ _ _ i (by assumption)).trans (K2b.out i o h1 h2 h3 h4 h5))
    clear P2b S2b A2b C2b X2b Z2b B2b K2b d_2b q1_2b q2_2b e_2b f_2b hHeld
    generalize W5.setCell ⟨g4, x.f3.toNat, none⟩ (.int .i64 (wrap64 (rd G x.f3 + x.f1))) = W6 at P2bb S2bb A2bb C2bb X2bb Z2bb B2bb K2bb ⊢
    simp only [OnlyNormal]
    gi_wp2
    have NS : ∀ i o, W.heap[i]? = some o → (∀ cs, o ≠ .cells cs 60 (0, 0)) → some i ≠ vs'.ownBlock := fun i o hi hno e => by
      obtain ⟨cs, hcs⟩ := own_typed HS.out i e.symm
      rw [hi] at hcs
      exact hno cs (Option.some.inj hcs)
    refine ⟨⟨Z2bb.out, fun i o hB' hi ho => K2bb.out i o hi (by omega) (NS i o hi (fun cs e => by subst e; cases ho)) (by omega) (by omega)⟩, ⟨B2bb.out, fun i o hi hor => ?_⟩, ?_⟩
    · rcases hor with hor | ⟨cs, fr, rfl⟩
      · exact K2bb.out i o hi (by omega) (fun e => by have := own_base HS.out i e.symm; omega) (by omega) (by omega)
      · refine K2bb.out i _ hi (fun e => ?_) (NS i _ hi (fun cs' e => by cases e)) (fun e => ?_) (fun e => ?_)
        · subst e
          have := HP.out
          rw [hi] at this
          cases this
        · subst e
          obtain ⟨cs', hcs⟩ := own_typed H3.out i rfl
          rw [hi] at hcs
          cases hcs
        · subst e
          obtain ⟨cs', hcs⟩ := own_typed H4.out i rfl
          rw [hi] at hcs
          cases hcs
    · refine ⟨.slice (some ⟨g', 0, none⟩) (pre.length + 1) cap', P2bb.out, ?_, ?_, ?_, HB.out.trans B2bb.out, Nat.le_trans HZ.out Z2bb.out, fun i o hi h1 h2 h3 => K2bb.out i o (HKK.out i o hi h1 h2 h3) h1 (fun e => ?_) h2 h3⟩
      · have := S2bb.out
        rw [← cells60_snoc] at this
        simpa only [List.map_append, List.map_cons, List.map_nil, List.length_append, List.length_cons, List.length_nil, List.length_map] using this
      · have := A2bb.out
        rw [U1.out] at this
        simp only [List.map_append, List.map_cons, List.map_nil]
        rw [LF.out]
        exact this
      · have := C2bb.out
        rw [U2.out] at this
        simp only [List.map_append, List.map_cons, List.map_nil]
        rw [LS.out]
        exact this
      · have h1_ := own_base HS.out i e.symm
        have h2_ := blk_lt hi
        omega
  case done =>
    rintro D ys W hD hS hI hK
    exact hdone D _ W hD hS (fun x hx => by
      obtain ⟨y, _, rfl⟩ := List.mem_map.1 hx
      exact y.2) hI hK
  case stop =>
    rintro D c pre W _ _ h _
    exact h.elim

end Go.Proofs.Ytbhcchcjmgfpiaa.Print
