-- Fq, Fy, PuValues (what this claim uses of them)
import Derived.Test.YtehgfpfmpkmdmaaDoorYv37
import Derived.Test.YtehgfpfmpkmdmaaDoorYv24
import Derived.Test.YtehgfpfmpkmdmaaDoorYv27
import Derived.Test.YtehgfpfmpkmdmaaDoorYv28
import Derived.Test.YtehgfpfmpkmdmaaDoorYv30
namespace Go.Proofs.YtehgfpfmpkmdmaaDoor.Print
open Go.RowKit Go.Proofs.YtehgfpfmpkmdmaaDoorW.PrintWords Go.Proofs.YtehgfpfmpkmdmaaDoorW.PrintLast Go.Proofs.YtehgfpfmpkmdmaaDoorW.PrintMore
open Go.Proofs.YtehgfpfmpkmdmaaDoor.Gf
/-- The element with a number. -/
def elm (n : Nat) : F := ⟨n % 64, Nat.mod_lt _ (by decide)⟩
theorem ofF_elm {n : Nat} (h : n < 64) : ofF (elm n) = (n : Int) := by simp [ofF, elm, Nat.mod_eq_of_lt h]
theorem elm_v (a : F) : elm a.v = a := F.ext (Nat.mod_eq_of_lt a.h)
theorem elm_inj {m n : Nat} (hm : m < 64) (hn : n < 64) (h : elm m = elm n) : m = n := by
  have := congrArg F.v h
  simp only [elm] at this
  omega
/-- The elements from number i on, to number n - 1. -/
def els (n : Nat) : List F := (List.range n).map elm
theorem els_succ (n : Nat) : els (n + 1) = els n ++ [elm n] := by simp [els, List.range_succ]
theorem els_mem (a : F) : a ∈ els 64 := List.mem_map.2 ⟨a.v, List.mem_range.2 a.h, elm_v a⟩
theorem els_nodup : (els 64).Nodup := by
  unfold els
  rw [List.nodup_iff_pairwise_ne, List.pairwise_map]
  refine (List.nodup_iff_pairwise_ne.1 List.nodup_range).imp_of_mem ?_
  intro a b ha hb hne he
  exact hne (elm_inj (List.mem_range.1 ha) (List.mem_range.1 hb) he)
def rootsOf (p : Poly) : List F := (els 64).filter (fun x => decide (ev p x = 0))
theorem roots_l (p : Poly) : ∀ (d x K : Nat) (o : List F), x + d = 64 → o = (els x).filter (fun x => decide (ev p x = 0)) → d < K → field_Roots.l0 K (IL p) (IL o) (x : Int) = some (IL (rootsOf p), 0)
  | 0, x, K, o, h, ho, hK => by
    obtain ⟨K, rfl⟩ : ∃ m, K = m + 1 := ⟨K - 1, by omega⟩
    obtain rfl : x = 64 := by omega
    rw [field_Roots.l0, if_neg (by omega), ho]
    rfl
  | d + 1, x, K, o, h, ho, hK => by
    obtain ⟨K, rfl⟩ : ∃ m, K = m + 1 := ⟨K - 1, by omega⟩
    have e : (x : Int) = ofF (elm x) := (ofF_elm (by omega)).symm
    have hol : o.length ≤ 64 := by
      rw [ho]
      refine Nat.le_trans (List.length_filter_le _ _) ?_
      simp [els]
      omega
    have hw : ((x : Int) + 1) % 256 = ((x + 1 : Nat) : Int) := by omega
    rw [field_Roots.l0, if_pos (by omega), hw]
    conv => lhs; rw [e]
    rw [eval_f, Option.bind_some]
    by_cases h0 : ev p (elm x) = 0
    · rw [if_pos (by rw [h0]; rfl), if_pos (by rw [IL_len]; omega)]
      have := roots_l p d (x + 1) K (o ++ [elm x]) (by omega) (by rw [els_succ, List.filter_append, ← ho]; simp [h0]) (by omega)
      rw [show IL o ++ [ofF (elm x)] = IL (o ++ [elm x]) by simp [IL]]
      exact this
    · rw [if_neg (fun h => h0 (ofF_eq_zero.1 h))]
      exact roots_l p d (x + 1) K o (by omega) (by rw [els_succ, List.filter_append, ← ho]; simp [h0]) (by omega)
theorem Roots_f (p : Poly) (hp : p.length ≤ 128) (h0 : 0 < dg p) (k : Nat) (hk : 1000 ≤ k) : field_Roots.f k (IL p) = some (IL (rootsOf p), 0) := by
  unfold field_Roots.f
  rw [check_one p hp, Option.bind_some, if_pos rfl, trim_f p (by omega) k (by omega), Option.bind_some, IL_len, len_dg, if_neg (by omega)]
  exact roots_l p 64 0 k [] (by omega) rfl (by omega)
theorem rootsOf_nodup (p : Poly) : (rootsOf p).Nodup := els_nodup.filter _
theorem rootsOf_mem {p : Poly} {x : F} : x ∈ rootsOf p ↔ ev p x = 0 := by
  unfold rootsOf
  rw [List.mem_filter]
  simp [els_mem]
theorem rootsOf_len (p : Poly) (h0 : 0 < dg p) : (rootsOf p).length < dg p := by
  rcases Nat.lt_or_ge (rootsOf p).length (dg p) with h | h
  · exact h
  · have := dg_eqv (roots_many (dg p) p (rootsOf p) (Nat.le_refl _) (rootsOf_nodup p) (fun x hx => rootsOf_mem.1 hx) h)
    rw [this] at h0
    exact absurd h0 (by decide)
end Go.Proofs.YtehgfpfmpkmdmaaDoor.Print

namespace Go.Proofs.YtehgfpfmpkmdmaaDoor.Print
open Go.RowKit Go.Proofs.YtehgfpfmpkmdmaaDoorW.PrintWords Go.Proofs.YtehgfpfmpkmdmaaDoorW.PrintLast Go.Proofs.YtehgfpfmpkmdmaaDoorW.PrintMore
open Go.Proofs.YtehgfpfmpkmdmaaDoor.Gf
theorem ev_drop (p : Poly) (x : F) (i : Nat) (h : i < p.length) : ev (p.drop i) x = cf p i + x * ev (p.drop (i + 1)) x := by
  rw [List.drop_eq_getElem_cons h, ev, cf_get h]
theorem rEval_l (p : Poly) (hp : p.length ≤ 1000) (x : F) : ∀ (d i k : Nat) (acc pow : F), i + d = p.length → acc + pow * ev (p.drop i) x = ev p x → d + 30 < k →
    letterbagref18_Eval.l0 k (IL p) (ofF x) (ofF acc) (ofF pow) (i : Int) = some (ofF (ev p x))
  | 0, i, k, acc, pow, h, he, hk => by
    obtain ⟨k, rfl⟩ : ∃ k', k = k' + 1 := ⟨k - 1, by omega⟩
    rw [List.drop_eq_nil_of_le (by omega), ev, mul_zero, add_zero] at he
    rw [letterbagref18_Eval.l0, if_neg (by rw [IL_len]; omega), he]
  | d + 1, i, k, acc, pow, h, he, hk => by
    obtain ⟨k, rfl⟩ : ∃ k', k = k' + 1 := ⟨k - 1, by omega⟩
    rw [letterbagref18_Eval.l0, if_pos (by rw [IL_len]; omega), if_pos (by omega), rd_ILn, refMul_f _ _ k (by omega), Option.bind_some, refMul_f _ _ k (by omega), Option.bind_some, bx_ofF, w64 (by omega) (by omega)]
    refine rEval_l p hp x d (i + 1) k _ _ (by omega) ?_ (by omega)
    rw [← he, ev_drop p x i (by omega), mul_add, mul_comm (cf p i) pow, add_assoc, mul_assoc]
theorem rEval (p : Poly) (hp : p.length ≤ 1000) (x : F) (k : Nat) (hk : p.length + 30 < k) : letterbagref18_Eval.f k (IL p) (ofF x) = some (ofF (ev p x)) :=
  rEval_l p hp x p.length 0 k 0 1 (by omega) (by rw [one_mul, zero_add]; rfl) hk
theorem rRoots_l (p : Poly) (hp : p.length ≤ 1000) : ∀ (d x K : Nat) (o : List F), x + d = 64 → o = (els x).filter (fun x => decide (ev p x = 0)) → d + 1100 < K → letterbagref18_Roots.l0 K (IL p) (IL o) (x : Int) = some (IL (rootsOf p))
  | 0, x, K, o, h, ho, hK => by
    obtain ⟨K, rfl⟩ : ∃ m, K = m + 1 := ⟨K - 1, by omega⟩
    obtain rfl : x = 64 := by omega
    rw [letterbagref18_Roots.l0, if_neg (by omega), ho]
    rfl
  | d + 1, x, K, o, h, ho, hK => by
    obtain ⟨K, rfl⟩ : ∃ m, K = m + 1 := ⟨K - 1, by omega⟩
    have e : (x : Int) = ofF (elm x) := (ofF_elm (by omega)).symm
    have hol : o.length ≤ 64 := by
      rw [ho]
      refine Nat.le_trans (List.length_filter_le _ _) ?_
      simp [els]
      omega
    have hw : ((x : Int) + 1) % 256 = ((x + 1 : Nat) : Int) := by omega
    rw [letterbagref18_Roots.l0, if_pos (by omega), hw]
    conv => lhs; rw [e]
    rw [rEval p hp _ K (by omega), Option.bind_some]
    by_cases h0 : ev p (elm x) = 0
    · rw [if_pos (by rw [h0]; rfl), if_pos (by rw [IL_len]; omega)]
      have := rRoots_l p hp d (x + 1) K (o ++ [elm x]) (by omega) (by rw [els_succ, List.filter_append, ← ho]; simp [h0]) (by omega)
      rw [show IL o ++ [ofF (elm x)] = IL (o ++ [elm x]) by simp [IL]]
      exact this
    · rw [if_neg (fun h => h0 (ofF_eq_zero.1 h))]
      exact rRoots_l p hp d (x + 1) K o (by omega) (by rw [els_succ, List.filter_append, ← ho]; simp [h0]) (by omega)
theorem rRoots (p : Poly) (hp : p.length ≤ 1000) (k : Nat) (hk : 2000 ≤ k) : letterbagref18_Roots.f k (IL p) = some (IL (rootsOf p)) :=
  rRoots_l p hp 64 0 k [] (by omega) rfl (by omega)
structure Lag (X Y : Poly) (i : Nat) (out : Poly) : Prop where
  tro : tr out = out
  lo : dg out ≤ X.length
  val : ∀ j, j < i → ev out (cf X j) = cf Y j
  zero : ∀ j, i ≤ j → j < X.length → ev out (cf X j) = 0
structure Part (X : Poly) (i k : Nat) (P : Poly) : Prop where
  trp : tr P = P
  lp : dg P ≤ (if i < k then k else k + 1)
  zero : ∀ j, j < k → j ≠ i → ev P (cf X j) = 0
  unit : ev P (cf X i) ≠ 0
theorem sh_zero (v : F) (P : Poly) : Eqv (sh 0 v P) (smul v P) := fun j => by
  rw [cf_sh, if_pos (Nat.zero_le _), cf_smul, Nat.sub_zero, mul_comm]
theorem ev_sh (v : F) (P : Poly) (x : F) : ev (sh 0 v P) x = v * ev P x := by rw [ev_eqv (sh_zero v P), ev_smul]
def Alike (X : Poly) : Prop := ∃ j k, j ≠ k ∧ j < X.length ∧ k < X.length ∧ cf X j = cf X k
theorem rThr_1 (X Y : Poly) (hn : X.length ≤ 128) (hxy : Y.length = X.length) (i : Nat) (hi : i < X.length) (out : Poly) (hL : Lag X Y i out) : ∀ (d k K : Nat) (P : Poly), k + d = X.length → Part X i k P → (∀ j, j < k → j ≠ i → cf X j ≠ cf X i) → 800000 + d < K →
    (letterbagref18_Through.l1 K (IL X) (IL Y) (IL out) (i : Int) (IL P) (ofF (ev P (cf X i))) (k : Int) = some ([], false) ∧ Alike X) ∨
    (∃ out', (∀ j, j < X.length → j ≠ i → cf X j ≠ cf X i) ∧ Lag X Y (i + 1) out' ∧ ∃ K', K ≤ K' + d + 1 ∧ letterbagref18_Through.l1 K (IL X) (IL Y) (IL out) (i : Int) (IL P) (ofF (ev P (cf X i))) (k : Int) = letterbagref18_Through.l0 K' (IL X) (IL Y) (IL out') ((i + 1 : Nat) : Int))
  | 0, k, K, P, h, hP, hne, hK => by
    obtain ⟨K, rfl⟩ : ∃ m, K = m + 1 := ⟨K - 1, by omega⟩
    have hpl := len_of_tr hP.trp
    have hol := len_of_tr hL.tro
    have hpd := hP.lp
    have hod := hL.lo
    rw [if_pos (by omega)] at hpd
    obtain ⟨v, hv⟩ : ∃ v, v = cf Y i * Gf.inv (ev P (cf X i)) := ⟨_, rfl⟩
    refine .inr ⟨tr (addP out (sh 0 v P)), fun j hj hji => hne j (by omega) hji, ⟨tr_tr _, ?_, fun j hj => ?_, fun j hj hjn => ?_⟩, K, by omega, ?_⟩
    · rw [dg_tr]
      refine dg_add_le hod (Nat.le_trans (dg_len _) ?_)
      rw [sh_len]
      omega
    · rw [ev_eqv (tr_eqv _), ev_add, ev_sh]
      by_cases hji : j = i
      · rw [hji, hL.zero i (Nat.le_refl _) hi, hv, mul_assoc, inv_mul hP.unit, mul_one, zero_add]
      · rw [hL.val j (by omega), hP.zero j (by omega) hji, mul_zero, add_zero]
    · rw [ev_eqv (tr_eqv _), ev_add, ev_sh, hL.zero j (by omega) hjn, hP.zero j (by omega) (by omega), mul_zero, add_zero]
    · rw [letterbagref18_Through.l1, if_neg (by rw [IL_len]; omega), if_pos (by omega), if_pos (by rw [IL_len]; omega), refInv_f _ hP.unit K (by omega), Option.bind_some, rd_ILn, refMul_f _ _ K (by omega), Option.bind_some, ← hv, show (0 : Int) = ((0 : Nat) : Int) from rfl, rShift P v 0 (by omega) (by omega) K (by omega), Option.bind_some, rSum out (sh 0 v P) (by omega) (by rw [sh_len]; omega) K (by rw [sh_len]; omega), Option.bind_some, w64 (by omega) (by omega)]
      rfl
  | d + 1, k, K, P, h, hP, hne, hK => by
    obtain ⟨K, rfl⟩ : ∃ m, K = m + 1 := ⟨K - 1, by omega⟩
    have hpl := len_of_tr hP.trp
    have hpd := hP.lp
    have hw : wrap64 ((k : Int) + 1) = ((k + 1 : Nat) : Int) := by rw [w64 (by omega) (by omega)]; rfl
    rw [letterbagref18_Through.l1, if_pos (by rw [IL_len]; omega)]
    by_cases hki : k = i
    · rw [if_pos (by omega), hw]
      have hP2 : Part X i (k + 1) P := ⟨hP.trp, by rw [if_neg (by omega)] at hpd; rw [if_pos (by omega)]; exact hpd, fun j hj hji => hP.zero j (by omega) hji, hP.unit⟩
      rcases rThr_1 X Y hn hxy i hi out hL d (k + 1) K P (by omega) hP2 (fun j hj hji => hne j (by omega) hji) (by omega) with h1 | ⟨out', h1, h2, K', h3, h4⟩
      · exact .inl h1
      · exact .inr ⟨out', h1, h2, K', by omega, h4⟩
    · rw [if_neg (by omega), if_pos (by omega), if_pos (by omega), if_pos (by rw [IL_len]; omega), rd_ILn, rd_ILn]
      by_cases hc : cf X k = cf X i
      · rw [if_pos (by rw [hc])]
        exact .inl ⟨rfl, k, i, hki, by omega, hi, hc⟩
      · have hu : cf X k + cf X i ≠ 0 := fun e => hc (eq_of_add e)
        have lm := mul_dg_le P [cf X k, 1]
        have dl : dg (mulP P [cf X k, 1]) ≤ dg P + 1 := by
          rcases Nat.eq_zero_or_pos (dg P) with h0 | h0
          · rw [dg_eqv (mul_nil (q := [cf X k, 1]) (.inl (dg_zero h0)))]
            exact Nat.zero_le _
          · rw [dg_mul h0 (by rw [dg_two]; decide), dg_two]
            omega
        have ee : ∀ z, ev (tr (mulP P [cf X k, 1])) z = ev P z * (cf X k + z) := fun z => by rw [ev_eqv (tr_eqv _), ev_mul, ev_two]
        have hP2 : Part X i (k + 1) (tr (mulP P [cf X k, 1])) := by
          refine ⟨tr_tr _, ?_, fun j hj hji => ?_, ?_⟩
          · rw [dg_tr]
            by_cases hik : i < k
            · rw [if_pos hik] at hpd
              rw [if_pos (by omega)]
              omega
            · rw [if_neg hik] at hpd
              rw [if_neg (by omega)]
              omega
          · rw [ee]
            by_cases hjk : j = k
            · rw [hjk, add_self, mul_zero]
            · rw [hP.zero j (by omega) hji, zero_mul]
          · rw [ee]
            intro e
            rcases mul_eq_zero e with e | e
            · exact hP.unit e
            · exact hu e
        have hlen : P.length ≤ 300 := by
          have : dg P ≤ 129 := by
            by_cases hik : i < k
            · rw [if_pos hik] at hpd; omega
            · rw [if_neg hik] at hpd; omega
          omega
        rw [if_neg (fun e => hc (ofF_inj e)), show ([ofF (cf X k), 1] : List Int) = IL [cf X k, 1] from rfl, rProd P [cf X k, 1] hlen (by simp) K (by omega), Option.bind_some, bx_ofF, refMul_f _ _ K (by omega), Option.bind_some, hw, show ev P (cf X i) * (cf X i + cf X k) = ev (tr (mulP P [cf X k, 1])) (cf X i) by rw [ee, add_comm (cf X i)]]
        rcases rThr_1 X Y hn hxy i hi out hL d (k + 1) K _ (by omega) hP2 (fun j hj hji => by
          by_cases hjk : j = k
          · rw [hjk]; exact hc
          · exact hne j (by omega) hji) (by omega) with h1 | ⟨out', h1, h2, K', h3, h4⟩
        · exact .inl h1
        · exact .inr ⟨out', h1, h2, K', by omega, h4⟩
theorem rThr_0 (X Y : Poly) (hn : X.length ≤ 128) (hxy : Y.length = X.length) : ∀ (d i K : Nat) (out : Poly), i + d = X.length → Lag X Y i out → (∀ a b, a < i → b < X.length → b ≠ a → cf X b ≠ cf X a) → 900000 + 200 * d < K →
    (letterbagref18_Through.l0 K (IL X) (IL Y) (IL out) (i : Int) = some ([], false) ∧ Alike X) ∨
    (∃ g, letterbagref18_Through.l0 K (IL X) (IL Y) (IL out) (i : Int) = some (IL g, true) ∧ Lag X Y X.length g ∧ ∀ a b, a < X.length → b < X.length → b ≠ a → cf X b ≠ cf X a)
  | 0, i, K, out, h, hL, hne, hK => by
    obtain ⟨K, rfl⟩ : ∃ m, K = m + 1 := ⟨K - 1, by omega⟩
    obtain rfl : i = X.length := by omega
    exact .inr ⟨out, by rw [letterbagref18_Through.l0, if_neg (by rw [IL_len]; omega)], hL, hne⟩
  | d + 1, i, K, out, h, hL, hne, hK => by
    obtain ⟨K, rfl⟩ : ∃ m, K = m + 1 := ⟨K - 1, by omega⟩
    have hone : Part X i 0 [1] := ⟨rfl, by rw [if_neg (by omega)]; decide, fun j hj _ => absurd hj (by omega), by rw [show ev [(1 : F)] (cf X i) = 1 from ev_one 1 _]; decide⟩
    have e1 : ofF (ev [(1 : F)] (cf X i)) = 1 := by rw [ev_one]; rfl
    have hs := rThr_1 X Y hn hxy i (by omega) out hL X.length 0 K [1] (by omega) hone (fun j hj _ => absurd hj (by omega)) (by omega)
    rw [e1] at hs
    rw [letterbagref18_Through.l0, if_pos (by rw [IL_len]; omega), show ([1] : List Int) = IL [1] from rfl]
    rcases hs with h1 | ⟨out', h1, h2, K', h3, h4⟩
    · exact .inl h1
    · have h5 := rThr_0 X Y hn hxy d (i + 1) K' out' (by omega) h2 (fun a b ha hb hba => by
        by_cases hai : a = i
        · rw [hai]; exact h1 b hb (by omega)
        · exact hne a b (by omega) hb hba) (by omega)
      rw [show (0 : Int) = ((0 : Nat) : Int) from rfl, h4]
      exact h5
theorem rThrough (X Y : Poly) (hn : X.length ≤ 128) (hxy : Y.length = X.length) (K : Nat) (hK : 1000000 ≤ K) :
    (letterbagref18_Through.f K (IL X) (IL Y) = some ([], false) ∧ Alike X) ∨
    (∃ g, letterbagref18_Through.f K (IL X) (IL Y) = some (IL g, true) ∧ Lag X Y X.length g ∧ ∀ a b, a < X.length → b < X.length → b ≠ a → cf X b ≠ cf X a) :=
  rThr_0 X Y hn hxy X.length 0 K [] (by omega) ⟨rfl, by show 0 ≤ X.length; omega, fun j hj => absurd hj (by omega), fun j _ _ => rfl⟩ (fun a b ha => absurd ha (by omega)) (by omega)
end Go.Proofs.YtehgfpfmpkmdmaaDoor.Print

namespace Go.Proofs.YtehgfpfmpkmdmaaDoor.Print
open Go.RowKit Go.Proofs.YtehgfpfmpkmdmaaDoorW.PrintWords Go.Proofs.YtehgfpfmpkmdmaaDoorW.PrintLast Go.Proofs.YtehgfpfmpkmdmaaDoorW.PrintMore
open Go.Proofs.YtehgfpfmpkmdmaaDoor.Gf
theorem nodup_of {l : Poly} (h : ∀ j k, j < k → k < l.length → cf l j ≠ cf l k) : l.Nodup := by
  rw [List.nodup_iff_pairwise_ne, List.pairwise_iff_getElem]
  intro i j hi hj hij he
  exact h i j hij hj (by rw [cf_get hi, cf_get hj, he])
theorem vals_j5 (l2 l3 : List Int) (t : List Int) (e : Int) (he : e ≠ 0) (ht : t = []) (k : Nat) : letterbaglaw18_FieldValues.j5 (k + 1) l2 l3 t e e = some true := by
  have ha : letterbaglaw18_awake.f = some true := rfl
  subst ht
  rw [letterbaglaw18_FieldValues.j5, if_neg he, if_pos rfl, if_pos (by rfl), ha]
  rfl
theorem vals_j3 (l2 l3 : List Int) (n2 : ∀ x ∈ l2, 0 ≤ x) (n3 : ∀ x ∈ l3, 0 ≤ x) (h2 : l2.length ≤ 200) (h3 : l3.length ≤ 200) (t : List Int) (e : Int) (K : Nat) (hK : 1000 ≤ K) (hT : field_Through.f K l2 l3 = some (t, e)) (k : Nat) (hk : 1500000 ≤ k) :
    letterbaglaw18_FieldValues.j3 k l2 l3 t e = some true := by
  have ha : letterbaglaw18_awake.f = some true := rfl
  obtain ⟨k, rfl⟩ : ∃ k', k = k' + 3 := ⟨k - 3, by omega⟩
  rw [letterbaglaw18_FieldValues.j3, rer2 _ _ (by omega) (by omega) _ (by omega), Option.bind_some]
  by_cases hE : er2 l2 l3 = 0
  · obtain ⟨z0, z1⟩ := er2_zero hE
    obtain ⟨X, rfl, hX⟩ := er1_zero z0 n2
    obtain ⟨Y, rfl, hY⟩ := er1_zero z1 n3
    rw [if_pos hE, letterbaglaw18_FieldValues.j4, IL_len, IL_len]
    by_cases hxy : Y.length = X.length
    · rw [show ((X.length : Int) != (Y.length : Int)) = false by rw [hxy]; exact bne_self_eq_false _, if_neg (by decide), hE]
      rw [letterbaglaw18_FieldValues.j5, if_pos rfl]
      rcases Through_f X Y hX hxy K hK with ⟨hd, g, hg, htg, hdg, hv⟩ | ⟨⟨a, b, hab, hb, hc⟩, hg⟩
      · rcases rThrough X Y hX hxy k (by omega) with ⟨_, a, b, hab, ha1, hb1, hc⟩ | ⟨g2, hg2, hL, _⟩
        · rcases Nat.lt_or_gt_of_ne hab with h | h
          · exact absurd hc (hd a b h hb1)
          · exact absurd hc.symm (hd b a h ha1)
        · have hEq : Eqv g g2 := agree hdg hL.lo X (nodup_of hd) (Nat.le_refl _) (fun x hx => by
            obtain ⟨j, hj, rfl⟩ := List.getElem_of_mem hx
            rw [← cf_get hj, hv j hj, hL.val j hj])
          have e1 : g = g2 := by rw [← htg, ← hL.tro]; exact tr_canon hEq
          subst e1
          rw [hT] at hg
          injection hg with hg
          injection hg with h5 h6
          subst h5 h6
          have lg := len_of_tr htg
          rw [hg2, Option.bind_some]
          simp only
          rw [if_pos trivial, if_pos trivial, same_f _ (by rw [IL_len]; omega) k (by rw [IL_len]; omega), Option.bind_some, if_pos rfl, ha]
          rfl
      · rcases rThrough X Y hX hxy k (by omega) with ⟨hg2, _⟩ | ⟨g2, hg2, hL, hne⟩
        · rw [hT] at hg
          injection hg with hg
          injection hg with h5 h6
          subst h5 h6
          rw [hg2, Option.bind_some]
          simp only
          rw [if_neg (by decide), if_pos trivial, if_pos (by rfl), ha]
          rfl
        · exact absurd hc (fun hc => hne b a hb (by omega) (by omega) hc)
    · rw [show ((X.length : Int) != (Y.length : Int)) = true from bne_iff_ne.2 (by omega), if_pos rfl]
      unfold field_Through.f at hT
      rw [er2_f, Option.bind_some, if_pos hE, if_neg (by rw [IL_len, IL_len]; omega)] at hT
      injection hT with hT
      injection hT with h5 h6
      subst h6
      exact vals_j5 _ _ t 2 (by decide) h5.symm k
  · rw [if_neg hE, letterbaglaw18_FieldValues.j4, if_neg (by decide)]
    unfold field_Through.f at hT
    rw [er2_f, Option.bind_some, if_neg hE] at hT
    injection hT with hT
    injection hT with h5 h6
    subst h6
    exact vals_j5 _ _ t _ hE h5.symm k
theorem vals_j2 (l0 l2 l3 : List Int) (n0 : ∀ x ∈ l0, 0 ≤ x) (h0 : l0.length ≤ 200) (R : List Int) (e : Int) (K : Nat) (hK : 1000 ≤ K) (hR : field_Roots.f K l0 = some (R, e)) (t : List Int) (f : Int) (k : Nat) (hk : 1500000 ≤ k) (h3 : letterbaglaw18_FieldValues.j3 k l2 l3 t f = some true) :
    letterbaglaw18_FieldValues.j2 (k + 1) l0 l2 l3 R e t f false = some true := by
  rw [letterbaglaw18_FieldValues.j2, if_neg (by decide), rer1 _ (by omega) _ (by omega), Option.bind_some]
  by_cases hE : er1 l0 = 0
  · obtain ⟨p, rfl, hp⟩ := er1_zero hE n0
    have lp := dg_len p
    rw [if_pos hE, rDeg p (by omega) k (by omega), Option.bind_some]
    by_cases hd : dg p = 0
    · have h1 : (tr p).length = 0 := hd
      unfold field_Roots.f at hR
      rw [er1_f, Option.bind_some, if_pos hE, trim_f p (by omega) K (by omega), Option.bind_some, IL_len, h1, if_pos (by rfl)] at hR
      injection hR with hR
      injection hR with h5 h6
      subst h5 h6
      rw [if_pos (by omega), if_pos rfl, if_pos (by rfl)]
      exact h3
    · have hr := Roots_f p hp (by omega) K hK
      rw [hR] at hr
      injection hr with hr
      injection hr with h5 h6
      subst h5 h6
      have lr := rootsOf_len p (by omega)
      rw [if_neg (by omega), if_pos rfl, rRoots p (by omega) k (by omega), Option.bind_some, same_f _ (by rw [IL_len]; omega) k (by rw [IL_len]; omega), Option.bind_some, if_pos rfl]
      exact h3
  · rw [if_neg hE]
    unfold field_Roots.f at hR
    rw [er1_f, Option.bind_some, if_neg hE] at hR
    injection hR with hR
    injection hR with h5 h6
    subst h5 h6
    rw [if_pos rfl, if_pos (by rfl)]
    exact h3
theorem fieldValues_pure : letterbaglaw18_FieldValues.Pure := by
  intro l0 a1 l2 l3 _ _ w0 wa _ _ w2 _ _ w3
  have ha : letterbaglaw18_awake.f = some true := rfl
  have n0 := u8_nonneg w0
  have n2 := u8_nonneg w2
  have n3 := u8_nonneg w3
  refine ⟨2000005, ?_⟩
  unfold letterbaglaw18_FieldValues.f
  by_cases c0 : l0.length > 200
  · rw [if_pos (by omega), letterbaglaw18_FieldValues.j0, if_pos rfl, ha]
    rfl
  rw [if_neg (by omega)]
  by_cases c2 : l2.length > 200
  · rw [if_pos (by omega), letterbaglaw18_FieldValues.j0, if_pos rfl, ha]
    rfl
  rw [if_neg (by omega)]
  by_cases c3 : l3.length > 200
  · rw [show decide ((l3.length : Int) > 200) = true from decide_eq_true (by omega), letterbaglaw18_FieldValues.j0, if_pos rfl, ha]
    rfl
  have hna : ∀ x ∈ [a1], 0 ≤ x := u8_nonneg (fun x hx => by rw [List.mem_singleton] at hx; rw [hx]; exact wa)
  obtain ⟨⟨ev1, ee⟩, hV⟩ : ∃ x, field_Eval.f l0 a1 = some x := by
    by_cases hE : er2 l0 [a1] = 0
    · obtain ⟨z0, z1⟩ := er2_zero hE
      obtain ⟨p, rfl, hp⟩ := er1_zero z0 n0
      obtain ⟨q, hq, _⟩ := er1_zero z1 hna
      obtain ⟨x, rfl⟩ : ∃ x, a1 = ofF x := by
        cases q with
        | nil => cases hq
        | cons x q => exact ⟨x, by injection hq⟩
      exact ⟨_, Eval_f p hp x⟩
    · exact ⟨(0, er2 l0 [a1]), by unfold field_Eval.f; rw [er2_f, Option.bind_some, if_neg hE]⟩
  obtain ⟨⟨R, er⟩, hR⟩ : ∃ x, field_Roots.f 2000004 l0 = some x := by
    by_cases hE : er1 l0 = 0
    · obtain ⟨p, rfl, hp⟩ := er1_zero hE n0
      by_cases hd : dg p = 0
      · have h1 : (tr p).length = 0 := hd
        exact ⟨([], 6), by unfold field_Roots.f; rw [er1_f, Option.bind_some, if_pos hE, trim_f p (by omega) _ (by omega), Option.bind_some, IL_len, h1, if_pos (by rfl)]⟩
      · exact ⟨_, Roots_f p hp (by omega) _ (by omega)⟩
    · exact ⟨([], er1 l0), by unfold field_Roots.f; rw [er1_f, Option.bind_some, if_neg hE]⟩
  obtain ⟨⟨t, et⟩, hT⟩ : ∃ x, field_Through.f 2000004 l2 l3 = some x := by
    by_cases hE : er2 l2 l3 = 0
    · obtain ⟨z0, z1⟩ := er2_zero hE
      obtain ⟨X, rfl, hX⟩ := er1_zero z0 n2
      obtain ⟨Y, rfl, hY⟩ := er1_zero z1 n3
      by_cases hxy : Y.length = X.length
      · rcases Through_f X Y hX hxy 2000004 (by omega) with ⟨_, g, hg, _⟩ | ⟨_, hg⟩
        · exact ⟨_, hg⟩
        · exact ⟨_, hg⟩
      · exact ⟨([], 2), by unfold field_Through.f; rw [er2_f, Option.bind_some, if_pos hE, if_neg (by rw [IL_len, IL_len]; omega)]⟩
    · exact ⟨([], er2 l2 l3), by unfold field_Through.f; rw [er2_f, Option.bind_some, if_neg hE]⟩
  have h3 := vals_j3 l2 l3 n2 n3 (by omega) (by omega) t et 2000004 (by omega) hT 2000002 (by omega)
  have h2 := vals_j2 l0 l2 l3 n0 (by omega) R er 2000004 (by omega) hR t et 2000002 (by omega) h3
  rw [show decide ((l3.length : Int) > 200) = false from decide_eq_false (by omega), letterbaglaw18_FieldValues.j0, if_neg (by decide), lent_f l0 (by omega), Option.bind_some, lent_f l2 (by omega), Option.bind_some, lent_f l3 (by omega), Option.bind_some, hV, Option.bind_some, hR, Option.bind_some, hT, Option.bind_some,
    kept_f _ (by omega), Option.bind_some, if_pos rfl, kept_f _ (by omega), Option.bind_some, if_pos rfl, kept_f _ (by omega), Option.bind_some]
  simp only [Bool.not_true]
  rw [letterbaglaw18_FieldValues.j1, if_neg (by decide), over_f _ (by omega), Option.bind_some, over_f _ (by omega), Option.bind_some, rer2 l0 [a1] (by omega) (by simp) _ (by omega), Option.bind_some]
  by_cases hE : er2 l0 [a1] = 0
  · obtain ⟨z0, z1⟩ := er2_zero hE
    obtain ⟨p, rfl, hp⟩ := er1_zero z0 n0
    obtain ⟨q, hq, _⟩ := er1_zero z1 hna
    obtain ⟨x, rfl⟩ : ∃ x, a1 = ofF x := by
      cases q with
      | nil => cases hq
      | cons x q => exact ⟨x, by injection hq⟩
    rw [Eval_f p hp x] at hV
    injection hV with hV
    injection hV with h5 h6
    subst h5 h6
    rw [hE, if_pos rfl, if_pos rfl, rEval p (by omega) x _ (by omega), Option.bind_some, bne_self_eq_false]
    exact h2
  · unfold field_Eval.f at hV
    rw [er2_f, Option.bind_some, if_neg hE] at hV
    injection hV with hV
    injection hV with h5 h6
    subst h5 h6
    rw [if_pos rfl, if_neg hE, if_pos rfl]
    exact h2
end Go.Proofs.YtehgfpfmpkmdmaaDoor.Print
