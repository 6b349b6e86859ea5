/- The contract of sequence.Find: the first seat with a stop, and whether there is one. By hand, in the printed contracts' form. -/
import Derived.Test.YtbhcchcjmgfpiaaGa
namespace Go.Proofs.Ytbhcchcjmgfpiaa.Print
open Go.RowKit Go.Proofs.YtbhcchcjmgfpiaaW.PrintWords Go.Proofs.YtbhcchcjmgfpiaaW.PrintLast Go.Proofs.YtbhcchcjmgfpiaaW.PrintMore

def isStop (s : Int) (x : S60) : Bool := x.f0 == s
def sequence_Find.f (_l0_0 : List Int) (l0_1 : List S60) (_l0_2 _l0_3 : List Int) (a1 : Int) : Option (Int × Int × Int × Int × Bool) :=
  match l0_1.find? (isStop a1) with
  | none => some (0, 0, 0, 0, false)
  | some x => some (x.f0, x.f1, x.f2, x.f3, true)
theorem idxFrom_find {α : Type} (p : α → Bool) : ∀ (l : List α) (k : Nat), (l.find? p = none ∧ idxFrom p k l = -1) ∨ ∃ j x, j < l.length ∧ l[j]? = some x ∧ l.find? p = some x ∧ idxFrom p k l = ((k + j : Nat) : Int)
  | [], k => .inl ⟨rfl, rfl⟩
  | x :: xs, k => by
    cases h : p x
    · rcases idxFrom_find p xs (k + 1) with ⟨h1, h2⟩ | ⟨j, y, hj, hy, h1, h2⟩
      · exact .inl ⟨by simp [h, h1], by simp [idxFrom, h, h2]⟩
      · exact .inr ⟨j + 1, y, by simp; omega, by simpa using hy, by simp [h, h1], by simp [idxFrom, h, h2]; omega⟩
    · exact .inr ⟨0, x, by simp, rfl, by simp [h], by simp [idxFrom, h]⟩

theorem three_new (w : World) (o0 o1 o2 : Obj) : ∃ W, ((w.alloc o0).alloc o1).alloc o2 = W ∧ W.heap[w.heap.size]? = some o0 ∧ W.heap[w.heap.size + 1]? = some o1 ∧ W.heap[w.heap.size + 1 + 1]? = some o2 ∧ Below w.heap.size w W := by
  refine ⟨_, rfl, blk_alloc (blk_alloc (blk_new _ _) _) _, blk_alloc ?_ _, ?_, below_alloc (below_alloc (below_alloc (Below.refl _ _) _) _) _⟩
  · have := blk_new (w.alloc o0) o1
    rwa [World.size_alloc] at this
  · have := blk_new ((w.alloc o0).alloc o1) o2
    rwa [World.size_alloc, World.size_alloc] at this
theorem four_put {w : World} {g : Nat} {t : TypeId} {a0 a1 a2 a3 : Value} (h : w.heap[g]? = some (.cells #[a0, a1, a2, a3] t (0, 0))) (x0 x1 x2 x3 : Value) :
    ((((w.setCell ⟨g, 0, none⟩ x0).setCell ⟨g, 1, none⟩ x1).setCell ⟨g, 2, none⟩ x2).setCell ⟨g, 3, none⟩ x3).heap[g]? = some (.cells #[x0, x1, x2, x3] t (0, 0)) :=
  blk_put (cs := #[x0, x1, x2, a3]) (blk_put (cs := #[x0, x1, a2, a3]) (blk_put (cs := #[x0, a1, a2, a3]) (blk_put h 0 x0 rfl) 1 x1 rfl) 2 x2 rfl) 3 x3 rfl
theorem four_below {w W : World} {g : Nat} (h : Below w.heap.size w W) (hg : w.heap.size ≤ g) (x0 x1 x2 x3 : Value) :
    Below w.heap.size w ((((W.setCell ⟨g, 0, none⟩ x0).setCell ⟨g, 1, none⟩ x1).setCell ⟨g, 2, none⟩ x2).setCell ⟨g, 3, none⟩ x3) := below_set (below_set (below_set (below_set h hg) hg) hg) hg
theorem eq48 (x : S60) (s : Int) (B : Nat) (w : World) (hB : w.cell? ⟨B, 0, none⟩ = some (.int .i64 s)) :
    Calls Try.prog 48 #[.agg #[.int .i64 x.f0, .int .i64 x.f1, .int .i64 x.f2, .int .i64 x.f3], .pointer (some ⟨B, 0, none⟩)] w fun e w' => e = .returned (.bool (isStop s x)) ∧ Below w.heap.size w w' := by
  have hu60 := Try.underlying60
  have hb := World.block_lt_of_cell? _ _ hB
  go_enter Try.func48, Try.ntmps48
  go_wp2
  go_ret
  exact ⟨ret_bool (by simp [isStop]), (Below.refl _ _).alloc (Nat.le_refl _) _⟩

set_option maxHeartbeats 2000000 in
theorem idx47 (A : Option Addr) (c : Nat) (l : List S60) (s : Int) (B : Nat) (w : World) (hr : Kd.C k60 w A l.length l) (hB : w.cell? ⟨B, 0, none⟩ = some (.int .i64 s)) :
    Calls Try.prog 47 #[.slice A l.length c, .func (.func 48) #[] #[.pointer (some ⟨B, 0, none⟩)]] w fun e w' => e = .returned (.int .i64 (idxFrom (isStop s) 0 l)) ∧ Below w.heap.size w w' := by
  have hmax : l.length ≤ 9223372036854775807 := hr.2.1
  have hu60 := Try.underlying60
  have HR := Aside0.mk hr
  have HC := Aside0.mk hB
  clear hr hB
  go_enter Try.func47, Try.ntmps47
  go_wp2
  go_loopw [8] (fun i wr => ∃ k : Nat, k ≤ l.length ∧ i = .int .i64 k ∧ Aside0 (idxFrom (isStop s) 0 l = idxFrom (isStop s) k (l.drop k)) ∧ Aside0 (Below w.heap.size w wr)) (fun i _ => l.length - (intOf i).toNat)
  case atStart => exact ⟨0, Nat.zero_le _, rfl, ⟨rfl⟩, ⟨Below.refl _ _⟩⟩
  case round =>
    obtain ⟨k, hk, rfl, HI, HB⟩ := hrel
    by_cases hlt : k < l.length
    · obtain ⟨ad, rfl, hx0, hx1, hx2, hx3⟩ := at_T60 (Kd.C_below HR.out HB.out) (k : Int) (by omega) (by omega)
      simp only [Int.toNat_natCast] at hx0 hx1 hx2 hx3
      obtain ⟨x, hx⟩ : ∃ x, x = rd_T60 l k := ⟨_, rfl⟩
      rw [← hx] at hx0 hx1 hx2 hx3
      have HD := Aside0.mk (HI.out.trans (idxFrom_drop (isStop s) z60 l k hlt))
      rw [show l.getD k z60 = x from by rw [hx]; simp [rd_T60]] at HD
      have HC1 := Aside0.mk ((HB.out.cell (World.block_lt_of_cell? _ _ HC.out)).trans HC.out)
      clear hx HI
      cases hb : isStop s x
      · have HE := Aside0.mk hb
        clear hb
        go_wp2_with (go_at_call 48; refine (eq48 x s B _ HC1.out).mono ?_; rintro e w' ⟨rfl, hbel⟩; rw [HE.out]; have HB2 := Aside0.mk (below_then HB.out HB.out.size hbel); clear hbel)
        go_roundw
        case rel => exact ⟨k + 1, by omega, by go_num, ⟨by rw [HD.out, HE.out]; rfl⟩, HB2⟩
        case measure => simp [intOf]; omega
      · have HE := Aside0.mk hb
        clear hb
        go_wp2_with (go_at_call 48; refine (eq48 x s B _ HC1.out).mono ?_; rintro e w' ⟨rfl, hbel⟩; rw [HE.out]; have HB2 := Aside0.mk (below_then HB.out HB.out.size hbel); clear hbel)
        go_ret
        exact ⟨ret_int (by rw [HD.out, HE.out]; rfl), HB2.out⟩
    · have HK := Aside0.mk (show k = l.length by omega)
      go_wp2
      go_ret
      exact ⟨ret_int (by rw [HI.out, HK.out, List.drop_length]; rfl), HB.out⟩

set_option maxHeartbeats 2000000 in
set_option maxRecDepth 100000 in
theorem sequence_Find.calls (A0_0 : Option Addr) (c0_0 : Nat) (l0_0 : List Int) (A0_1 : Option Addr) (c0_1 : Nat) (l0_1 : List (S60)) (A0_2 : Option Addr) (c0_2 : Nat) (l0_2 : List Int) (A0_3 : Option Addr) (c0_3 : Nat) (l0_3 : List Int) (a1 : Int) (r1 : Int) (r2 : Int) (r3 : Int) (r4 : Int) (r5 : Bool) (w : World) (_hr0_0 : Kd.C (Kd.int .i64) w A0_0 l0_0.length l0_0) (_hc0_0 : l0_0.length ≤ c0_0) (hr0_1 : Kd.C k60 w A0_1 l0_1.length l0_1) (_hc0_1 : l0_1.length ≤ c0_1) (_hr0_2 : Kd.C (Kd.int .i64) w A0_2 l0_2.length l0_2) (_hc0_2 : l0_2.length ≤ c0_2) (_hr0_3 : Kd.C (Kd.int .i64) w A0_3 l0_3.length l0_3) (_hc0_3 : l0_3.length ≤ c0_3) (h : sequence_Find.f l0_0 l0_1 l0_2 l0_3 a1 = some (r1, r2, r3, r4, r5)) :
    Calls Try.prog 28 #[.agg #[.slice A0_0 l0_0.length c0_0, .slice A0_1 l0_1.length c0_1, .slice A0_2 l0_2.length c0_2, .slice A0_3 l0_3.length c0_3], .int .i64 a1] w fun e w' => e = .returned (.tuple #[.agg #[.int .i64 r1, .int .i64 r2, .int .i64 r3, .int .i64 r4], .bool r5]) ∧ Below w.heap.size w w' := by
  have HR := Aside0.mk hr0_1
  clear hr0_1 _hr0_0 _hr0_2 _hr0_3 _hc0_0 _hc0_1 _hc0_2 _hc0_3
  have hu60 := Try.underlying60
  have hu38 := Try.underlying38
  have HF := Aside0.mk h
  clear h
  go_enter Try.func28, Try.ntmps28
  go_wp2_with fail
  obtain ⟨W0, hW, B0, B1, B2, BL⟩ := three_new w (.cells #[.slice A0_0 l0_0.length c0_0, .slice A0_1 l0_1.length c0_1, .slice A0_2 l0_2.length c0_2, .slice A0_3 l0_3.length c0_3] 38) (.cells #[.int .i64 a1] 3) (.cells #[.int .i64 0, .int .i64 0, .int .i64 0, .int .i64 0] 60)
  rw [hW]
  clear hW
  refine (idx47 _ _ l0_1 a1 (w.heap.size + 1) _ (Kd.C_below HR.out BL) ((blk_cell B1 0).trans rfl)).mono ?_
  rintro e w2 ⟨rfl, hb2⟩
  have H0 := Aside0.mk (blk_below B0 hb2)
  have H2 := Aside0.mk (blk_below B2 hb2)
  have HB := Aside0.mk (below_then BL BL.size hb2)
  have HR2 := Aside0.mk (Kd.C_below HR.out (below_then BL BL.size hb2))
  clear B0 B1 B2 BL hb2 HR W0
  have hp0 : w2.cell? ⟨w.heap.size, 1, none⟩ = some (.slice A0_1 l0_1.length c0_1) := (blk_cell H0.out 1).trans rfl
  have q0 : w2.cell? ⟨w.heap.size + 1 + 1, 0, none⟩ = some (.int .i64 0) := (blk_cell H2.out 0).trans rfl
  have q1 : w2.cell? ⟨w.heap.size + 1 + 1, 1, none⟩ = some (.int .i64 0) := (blk_cell H2.out 1).trans rfl
  have q2 : w2.cell? ⟨w.heap.size + 1 + 1, 2, none⟩ = some (.int .i64 0) := (blk_cell H2.out 2).trans rfl
  have q3 : w2.cell? ⟨w.heap.size + 1 + 1, 3, none⟩ = some (.int .i64 0) := (blk_cell H2.out 3).trans rfl
  have f0 := blk_frozen H2.out 0
  have f1 := blk_frozen H2.out 1
  have f2 := blk_frozen H2.out 2
  have f3 := blk_frozen H2.out 3
  rcases idxFrom_find (isStop a1) l0_1 0 with ⟨h1, h2⟩ | ⟨j, x, hj, hx, h1, h2⟩
  · have HE := Aside0.mk h2
    have HV := Aside0.mk h1
    clear h1 h2
    rw [HE.out]
    go_wp2
    refine bodyPost_ret (results_list (rs := [.cell 4 60, .tmp 5]) rfl (by simp) (.cell (w.heap.size + 1 + 1) 60 _ (0, 0) _ rfl (four_put H2.out _ _ _ _) Try.underlying60 rfl (by kernel_rfl) (.tmp .nil))) rfl ?_
    have hv := HF.out
    rw [sequence_Find.f, HV.out] at hv
    simp only [Option.some.injEq, Prod.mk.injEq] at hv
    obtain ⟨rfl, rfl, rfl, rfl, rfl⟩ := hv
    exact ⟨rfl, four_below HB.out (by omega) _ _ _ _⟩
  · have HE := Aside0.mk h2
    have HV := Aside0.mk h1
    obtain ⟨ad, rfl, hx0, hx1, hx2, hx3⟩ := at_T60 HR2.out (j : Int) (by omega) (by omega)
    simp only [Int.toNat_natCast] at hx0 hx1 hx2 hx3
    rw [show rd_T60 l0_1 (j : Int) = x from by simp [rd_T60, List.getD_eq_getElem?_getD, hx]] at hx0 hx1 hx2 hx3
    clear h1 h2 hx
    rw [HE.out]
    go_wp2
    refine bodyPost_ret (results_list (rs := [.cell 4 60, .tmp 5]) rfl (by simp) (.cell (w.heap.size + 1 + 1) 60 _ (0, 0) _ rfl (four_put H2.out _ _ _ _) Try.underlying60 rfl (by kernel_rfl) (.tmp .nil))) rfl ?_
    have hv := HF.out
    rw [sequence_Find.f, HV.out] at hv
    simp only [Option.some.injEq, Prod.mk.injEq] at hv
    obtain ⟨rfl, rfl, rfl, rfl, rfl⟩ := hv
    exact ⟨rfl, four_below HB.out (by omega) _ _ _ _⟩
end Go.Proofs.Ytbhcchcjmgfpiaa.Print
