/- The program's Roots: the elements at which a polynomial is 0, in rising order; no more than its degree. The product of z - r over some r has just these roots. Plain Lean. -/
import Derived.Test.YtehgfpfmpkmdmaaDoorFx
import Derived.Test.YtehgfpfmpkmdmaaDoorPrint10
namespace Go.Proofs.YtehgfpfmpkmdmaaDoor.Print
open Go.RowKit Go.Proofs.YtehgfpfmpkmdmaaDoorW.PrintWords Go.Proofs.YtehgfpfmpkmdmaaDoorW.PrintLast Go.Proofs.YtehgfpfmpkmdmaaDoorW.PrintMore
open Go.Proofs.YtehgfpfmpkmdmaaDoor.Gf

/-- The element with a number. -/
def elm (n : Nat) : F := ⟨n % 64, Nat.mod_lt _ (by decide)⟩
theorem ofF_elm {n : Nat} (h : n < 64) : ofF (elm n) = (n : Int) := by simp [ofF, elm, Nat.mod_eq_of_lt h]
theorem elm_v (a : F) : elm a.v = a := F.ext (Nat.mod_eq_of_lt a.h)
theorem elm_inj {m n : Nat} (hm : m < 64) (hn : n < 64) (h : elm m = elm n) : m = n := by
  have := congrArg F.v h
  simp only [elm] at this
  omega
/-- The elements from number i on, to number n - 1. -/
def els (n : Nat) : List F := (List.range n).map elm
theorem els_succ (n : Nat) : els (n + 1) = els n ++ [elm n] := by simp [els, List.range_succ]
theorem els_mem (a : F) : a ∈ els 64 := List.mem_map.2 ⟨a.v, List.mem_range.2 a.h, elm_v a⟩
theorem els_nodup : (els 64).Nodup := by
  unfold els
  rw [List.nodup_iff_pairwise_ne, List.pairwise_map]
  refine (List.nodup_iff_pairwise_ne.1 List.nodup_range).imp_of_mem ?_
  intro a b ha hb hne he
  exact hne (elm_inj (List.mem_range.1 ha) (List.mem_range.1 hb) he)
def rootsOf (p : Poly) : List F := (els 64).filter (fun x => decide (ev p x = 0))
theorem roots_l (p : Poly) : ∀ (d x K : Nat) (o : List F), x + d = 64 → o = (els x).filter (fun x => decide (ev p x = 0)) → d < K → field_Roots.l0 K (IL p) (IL o) (x : Int) = some (IL (rootsOf p), 0)
  | 0, x, K, o, h, ho, hK => by
    obtain ⟨K, rfl⟩ : ∃ m, K = m + 1 := ⟨K - 1, by omega⟩
    obtain rfl : x = 64 := by omega
    rw [field_Roots.l0, if_neg (by omega), ho]
    rfl
  | d + 1, x, K, o, h, ho, hK => by
    obtain ⟨K, rfl⟩ : ∃ m, K = m + 1 := ⟨K - 1, by omega⟩
    have e : (x : Int) = ofF (elm x) := (ofF_elm (by omega)).symm
    have hol : o.length ≤ 64 := by
      rw [ho]
      refine Nat.le_trans (List.length_filter_le _ _) ?_
      simp [els]
      omega
    have hw : ((x : Int) + 1) % 256 = ((x + 1 : Nat) : Int) := by omega
    rw [field_Roots.l0, if_pos (by omega), hw]
    conv => lhs; rw [e]
    rw [eval_f, Option.bind_some]
    by_cases h0 : ev p (elm x) = 0
    · rw [if_pos (by rw [h0]; rfl), if_pos (by rw [IL_len]; omega)]
      have := roots_l p d (x + 1) K (o ++ [elm x]) (by omega) (by rw [els_succ, List.filter_append, ← ho]; simp [h0]) (by omega)
      rw [show IL o ++ [ofF (elm x)] = IL (o ++ [elm x]) by simp [IL]]
      exact this
    · rw [if_neg (fun h => h0 (ofF_eq_zero.1 h))]
      exact roots_l p d (x + 1) K o (by omega) (by rw [els_succ, List.filter_append, ← ho]; simp [h0]) (by omega)
theorem Roots_f (p : Poly) (hp : p.length ≤ 128) (h0 : 0 < dg p) (k : Nat) (hk : 1000 ≤ k) : field_Roots.f k (IL p) = some (IL (rootsOf p), 0) := by
  unfold field_Roots.f
  rw [check_one p hp, Option.bind_some, if_pos rfl, trim_f p (by omega) k (by omega), Option.bind_some, IL_len, len_dg, if_neg (by omega)]
  exact roots_l p 64 0 k [] (by omega) rfl (by omega)
theorem rootsOf_nodup (p : Poly) : (rootsOf p).Nodup := els_nodup.filter _
theorem rootsOf_mem {p : Poly} {x : F} : x ∈ rootsOf p ↔ ev p x = 0 := by
  unfold rootsOf
  rw [List.mem_filter]
  simp [els_mem]
theorem rootsOf_len (p : Poly) (h0 : 0 < dg p) : (rootsOf p).length < dg p := by
  rcases Nat.lt_or_ge (rootsOf p).length (dg p) with h | h
  · exact h
  · have := dg_eqv (roots_many (dg p) p (rootsOf p) (Nat.le_refl _) (rootsOf_nodup p) (fun x hx => rootsOf_mem.1 hx) h)
    rw [this] at h0
    exact absurd h0 (by decide)
theorem ev_lin (a x : F) : ev [a, 1] x = a + x := by simp only [ev, mul_zero, add_zero, mul_one]
theorem dg_lin (a : F) : dg [a, 1] = 2 := dg_eq (n := 1) (fun i hi => cf_ge (by simp; omega)) (show (1 : F) ≠ 0 by decide)
/-- A root divides a polynomial without a rest. -/
theorem root_divides {p d r : Poly} {x : F} (hx : ev p x = 0) (hr : dg r < dg [x, 1]) (htr : tr r = r) (h : Eqv p (addP (mulP d [x, 1]) r)) : r = [] := by
  rw [dg_lin] at hr
  have h1 : ev r x = 0 := by
    have := ev_eqv h x
    rw [hx, ev_add, ev_mul, ev_lin, add_self, mul_zero, zero_add] at this
    exact this.symm
  have hl : r.length = dg r := by rw [← len_dg, htr]
  rcases r with _ | ⟨a, _ | ⟨b, t⟩⟩
  · rfl
  · rw [ev, ev, mul_zero, add_zero] at h1
    subst h1
    exact absurd htr (by decide)
  · simp only [List.length_cons] at hl
    omega
/-- The product of z - r over some r. -/
def prodQ : List F → Poly
  | [] => [1]
  | r :: l => tr (mulP (prodQ l) [r, 1])
theorem prodQ_dg : ∀ l : List F, dg (prodQ l) = l.length + 1
  | [] => by decide
  | r :: l => by
    have ih := prodQ_dg l
    rw [prodQ, dg_tr, dg_mul (by omega) (by rw [dg_lin]; omega), ih, dg_lin, List.length_cons]
    omega
theorem prodQ_tr : ∀ l : List F, tr (prodQ l) = prodQ l
  | [] => by decide
  | r :: l => tr_tr _
theorem prodQ_root (x : F) : ∀ l : List F, ev (prodQ l) x = 0 ↔ x ∈ l
  | [] => by
    simp only [prodQ, ev, mul_zero, add_zero, List.not_mem_nil, iff_false]
    decide
  | r :: l => by
    rw [prodQ, ev_eqv (tr_eqv _), ev_mul, ev_lin, List.mem_cons]
    constructor
    · intro h
      rcases mul_eq_zero h with h | h
      · exact .inr ((prodQ_root x l).1 h)
      · exact .inl (eq_of_add h).symm
    · rintro (h | h)
      · rw [h, add_self, mul_zero]
      · rw [(prodQ_root x l).2 h, zero_mul]
/-- How many of the elements before number x are among some. -/
def cntM (l : List F) (x : Nat) : Nat := ((els x).filter (fun a => decide (a ∈ l))).length
theorem cntM_succ (l : List F) (x : Nat) : cntM l (x + 1) = cntM l x + if elm x ∈ l then 1 else 0 := by
  unfold cntM
  rw [els_succ, List.filter_append, List.length_append]
  by_cases h : elm x ∈ l <;> simp [h]
theorem rootsQ (l : List F) : rootsOf (prodQ l) = (els 64).filter (fun a => decide (a ∈ l)) := by
  unfold rootsOf
  refine List.filter_congr fun x _ => ?_
  simp only [decide_eq_decide]
  exact prodQ_root x l
theorem cntM_len (l : List F) : cntM l 64 = (rootsOf (prodQ l)).length := by rw [rootsQ]; rfl
theorem els_split (x : Nat) (h : x < 64) : ∃ t, els 64 = els x ++ elm x :: t := by
  refine ⟨((List.range 64).drop (x + 1)).map elm, ?_⟩
  unfold els
  rw [show List.range x = (List.range 64).take x by rw [List.take_range, Nat.min_eq_left (by omega)], ← List.map_cons (f := elm) (a := x), ← List.map_append]
  congr 1
  conv => lhs; rw [← List.take_append_drop x (List.range 64)]
  congr 1
  rw [List.drop_eq_getElem_cons (by simpa using h)]
  simp
theorem cntM_at (l : List F) (x : Nat) (h : x < 64) (hm : elm x ∈ l) : cntM l x < (rootsOf (prodQ l)).length ∧ cf (rootsOf (prodQ l)) (cntM l x) = elm x := by
  obtain ⟨t, ht⟩ := els_split x h
  rw [rootsQ, ht, List.filter_append, List.filter_cons_of_pos (by simpa using hm)]
  constructor
  · rw [List.length_append, List.length_cons]
    unfold cntM
    omega
  · unfold cf cntM
    rw [List.getD_eq_getElem?_getD, List.getElem?_append_right (Nat.le_refl _), Nat.sub_self]
    rfl
end Go.Proofs.YtehgfpfmpkmdmaaDoor.Print
