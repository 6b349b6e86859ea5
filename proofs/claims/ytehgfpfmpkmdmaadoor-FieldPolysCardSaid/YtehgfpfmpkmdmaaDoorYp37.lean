-- Fw, Fe, PuPolys (what this claim uses of them)
import Derived.Test.YtehgfpfmpkmdmaaDoorYp36
import Derived.Test.YtehgfpfmpkmdmaaDoorYp29
import Derived.Test.YtehgfpfmpkmdmaaDoorYp34
namespace Go.Proofs.YtehgfpfmpkmdmaaDoor.Print
open Go.RowKit Go.Proofs.YtehgfpfmpkmdmaaDoorW.PrintWords Go.Proofs.YtehgfpfmpkmdmaaDoorW.PrintLast Go.Proofs.YtehgfpfmpkmdmaaDoorW.PrintMore
open Go.Proofs.YtehgfpfmpkmdmaaDoor.Gf
def sh (n : Nat) (c : F) (q : Poly) : Poly := List.replicate n 0 ++ q.map (· * c)
theorem sh_len (n : Nat) (c : F) (q : Poly) : (sh n c q).length = n + q.length := by simp [sh]
theorem cf_sh (n : Nat) (c : F) (q : Poly) (j : Nat) : cf (sh n c q) j = if n ≤ j then cf q (j - n) * c else 0 := by
  simp only [sh, cf, List.getD_eq_getElem?_getD]
  by_cases h : n ≤ j
  · rw [if_pos h, List.getElem?_append_right (by simpa using h), List.length_replicate, List.getElem?_map]
    cases q[j - n]? with
    | none => exact (zero_mul c).symm
    | some a => rfl
  · rw [if_neg h, List.getElem?_append_left (by simpa using h), List.getElem?_replicate, if_pos (by omega)]
    rfl
theorem IL_rep (n : Nat) : List.replicate n (0 : Int) = IL (List.replicate n 0) := by
  simp only [IL, List.map_replicate, ofF_zero]
theorem rShift_l (q : Poly) (c : F) (n : Nat) (hn : n ≤ 1000) (hq : q.length ≤ 1000) : ∀ (d i k : Nat), i + d = q.length → d + 30 < k →
    letterbagref18_Shift.l0 k (IL q) (ofF c) (IL (List.replicate n 0 ++ (q.take i).map (· * c))) (i : Int) = some (IL (sh n c q)) := by
  intro d
  induction d with
  | zero =>
    intro i k h hk
    obtain ⟨k, rfl⟩ : ∃ k', k = k' + 1 := ⟨k - 1, by omega⟩
    rw [letterbagref18_Shift.l0, if_neg (by rw [IL_len]; omega), List.take_of_length_le (by omega)]
    rfl
  | succ d ih =>
    intro i k h hk
    obtain ⟨k, rfl⟩ : ∃ k', k = k' + 1 := ⟨k - 1, by omega⟩
    have e : (q.take i).map (· * c) ++ [cf q i * c] = (q.take (i + 1)).map (· * c) := by
      rw [← take_app q i (by omega), List.map_append]
      rfl
    rw [letterbagref18_Shift.l0, if_pos (by rw [IL_len]; omega), if_pos (by omega), rd_ILn, refMul_f _ _ k (by omega), Option.bind_some, if_pos (by rw [IL_len]; simp; omega), IL_app, List.append_assoc, e, w64 (by omega) (by omega)]
    exact ih (i + 1) k (by omega) (by omega)
theorem rShift (q : Poly) (c : F) (n : Nat) (hn : n ≤ 1000) (hq : q.length ≤ 1000) (k : Nat) (hk : q.length + 30 < k) : letterbagref18_Shift.f k (IL q) (ofF c) (n : Int) = some (IL (sh n c q)) := by
  unfold letterbagref18_Shift.f
  rw [if_pos (by omega), if_pos (by omega), Int.toNat_natCast, IL_rep]
  have := rShift_l q c n hn hq q.length 0 k (by omega) hk
  simpa using this
theorem sh_mul (n : Nat) (c : F) (q : Poly) : Eqv (mulP (sh n c [1]) q) (sh n c q) := fun i => by
  have e : Eqv (sh n c [1]) (mono n c) := fun j => by
    rw [cf_sh, cf_mono]
    by_cases h1 : n ≤ j
    · rw [if_pos h1]
      by_cases h2 : j = n
      · rw [if_pos h2, h2, Nat.sub_self]
        exact one_mul c
      · rw [if_neg h2, cf_ge (by show 1 ≤ j - n; omega), zero_mul]
    · rw [if_neg h1, if_neg (by omega)]
  rw [mul_eqv e (Eqv.refl q) i, cf_mul_mono, cf_sh]
  by_cases h : n ≤ i
  · rw [if_pos h, if_pos h, mul_comm]
  · rw [if_neg h, if_neg h]
theorem rDiv_l (p q : Poly) (hq : q.length ≤ 300) (hq0 : 0 < dg q) : ∀ (d k : Nat) (out rest : Poly), dg rest ≤ d → tr rest = rest → tr out = out → rest.length ≤ 300 → out.length ≤ 300 → Eqv p (addP (mulP out q) rest) → 10000 + d < k →
    ∃ o r : Poly, letterbagref18_Divide.l0 k (IL q) (IL out) (IL rest) = some (IL o, IL r) ∧ tr o = o ∧ tr r = r ∧ dg r < dg q ∧ Eqv p (addP (mulP o q) r) := by
  have lq := dg_len q
  intro d
  induction d with
  | zero =>
    intro k out rest hd ht ht2 hl hl2 he hk
    obtain ⟨k, rfl⟩ : ∃ k', k = k' + 1 := ⟨k - 1, by omega⟩
    refine ⟨out, rest, ?_, ht2, ht, by omega, he⟩
    rw [letterbagref18_Divide.l0, rDeg rest (by omega) k (by omega), Option.bind_some, rDeg q (by omega) k (by omega), Option.bind_some, if_neg (by omega)]
  | succ d ih =>
    intro k out rest hd ht ht2 hl hl2 he hk
    obtain ⟨k, rfl⟩ : ∃ k', k = k' + 1 := ⟨k - 1, by omega⟩
    have lr := dg_len rest
    by_cases hge : dg q ≤ dg rest
    · obtain ⟨c, hc⟩ : ∃ c, c = cf rest (dg rest - 1) * Gf.inv (cf q (dg q - 1)) := ⟨_, rfl⟩
      obtain ⟨n, hn⟩ : ∃ n, n = dg rest - dg q := ⟨_, rfl⟩
      have hqt := dg_top hq0
      have e1 : ((dg rest : Int) - 1) = ((dg rest - 1 : Nat) : Int) := by omega
      have e2 : ((dg q : Int) - 1) = ((dg q - 1 : Nat) : Int) := by omega
      have e3 : wrap64 (((dg rest : Int) - 1) - ((dg q : Int) - 1)) = (n : Int) := by rw [w64 (by omega) (by omega)]; omega
      have ds : dg (sh n c [1]) ≤ 300 := Nat.le_trans (dg_len _) (by rw [sh_len]; show n + 1 ≤ 300; omega)
      have d1 : dg (addP out (sh n c [1])) ≤ 300 := dg_add_le (Nat.le_trans (dg_len _) hl2) ds
      have d20 : dg (addP rest (sh n c q)) ≤ dg rest - 1 := by
        refine dg_le (n := dg rest - 1) fun i hi => ?_
        rw [cf_add, cf_sh, if_pos (by omega)]
        by_cases hi2 : i = dg rest - 1
        · rw [hi2, show dg rest - 1 - n = dg q - 1 by omega, hc, mul_comm (cf q (dg q - 1)), mul_assoc, inv_mul hqt, mul_one, add_self]
        · rw [dg_ge (p := rest) (by omega), dg_ge (p := q) (by omega), zero_mul, add_zero]
      have d2 : dg (addP rest (sh n c q)) ≤ d := by omega
      have d3 : dg (addP rest (sh n c q)) ≤ 300 := by omega
      have l1 : (tr (addP out (sh n c [1]))).length ≤ 300 := d1
      have l2 : (tr (addP rest (sh n c q))).length ≤ 300 := d3
      have he2 : Eqv p (addP (mulP (tr (addP out (sh n c [1]))) q) (tr (addP rest (sh n c q)))) := fun i => by
        rw [he i, cf_add, cf_add, mul_eqv (tr_eqv _) (Eqv.refl q) i, add_mulP, cf_add, sh_mul, tr_eqv _ i, cf_add, add_assoc, ← add_assoc (cf (sh n c q) i), add_comm (cf (sh n c q) i) (cf rest i), add_assoc, add_self, add_zero]
      obtain ⟨o, r, h1, h2⟩ := ih k (tr (addP out (sh n c [1]))) (tr (addP rest (sh n c q))) (by rw [dg_tr]; exact d2) (tr_tr _) (tr_tr _) l2 l1 he2 (by omega)
      refine ⟨o, r, ?_, h2⟩
      rw [letterbagref18_Divide.l0, rDeg rest (by omega) k (by omega), Option.bind_some, rDeg q (by omega) k (by omega), Option.bind_some, if_pos (by omega), Option.bind_some, Option.bind_some, Option.bind_some, e3, e1, if_pos (by omega), if_pos (by rw [IL_len]; omega), Option.bind_some, e2, if_pos (by omega), if_pos (by rw [IL_len]; omega), rd_ILn, rd_ILn,
        refInv_f _ hqt k (by omega), Option.bind_some, refMul_f _ _ k (by omega), Option.bind_some, ← hc, show ([1] : List Int) = IL [1] from rfl, rShift [1] c n (by omega) (by decide) k (by show 1 + 30 < k; omega), Option.bind_some,
        rSum out (sh n c [1]) (by omega) (by rw [sh_len]; show n + 1 ≤ 100000; omega) k (by rw [sh_len]; show 4 * (out.length + (n + 1)) + 10 < k; omega), Option.bind_some, rShift q c n (by omega) (by omega) k (by omega), Option.bind_some,
        rSum rest (sh n c q) (by omega) (by rw [sh_len]; omega) k (by rw [sh_len]; omega), Option.bind_some]
      exact h1
    · refine ⟨out, rest, ?_, ht2, ht, by omega, he⟩
      rw [letterbagref18_Divide.l0, rDeg rest (by omega) k (by omega), Option.bind_some, rDeg q (by omega) k (by omega), Option.bind_some, if_neg (by omega)]
theorem rDiv (p q : Poly) (hp : p.length ≤ 300) (hq : q.length ≤ 300) (hq0 : 0 < dg q) (k : Nat) (hk : 20000 ≤ k) :
    ∃ o r : Poly, letterbagref18_Divide.f k (IL p) (IL q) = some (IL o, IL r) ∧ tr o = o ∧ tr r = r ∧ dg r < dg q ∧ Eqv p (addP (mulP o q) r) := by
  have lp := dg_len p
  have lt : (tr p).length = dg p := rfl
  unfold letterbagref18_Divide.f
  rw [rTrim p (by omega) k (by omega), Option.bind_some]
  exact rDiv_l p q hq hq0 (dg p) k [] (tr p) (by rw [dg_tr]; omega) (tr_tr p) rfl (by omega) (by simp) (fun i => by rw [cf_add, tr_eqv p i, mul_nil (.inl (Eqv.refl [])) i, cf_nil, zero_add]) (by omega)
end Go.Proofs.YtehgfpfmpkmdmaaDoor.Print

namespace Go.Proofs.YtehgfpfmpkmdmaaDoor.Print
open Go.RowKit Go.Proofs.YtehgfpfmpkmdmaaDoorW.PrintWords Go.Proofs.YtehgfpfmpkmdmaaDoorW.PrintLast Go.Proofs.YtehgfpfmpkmdmaaDoorW.PrintMore
open Go.Proofs.YtehgfpfmpkmdmaaDoor.Gf
theorem u8_nonneg {l : List Int} (h : ∀ x ∈ l, (Lit.int .u8 x).wf = true) : ∀ x ∈ l, 0 ≤ x := fun x hx => by
  have := h x hx
  simp [Lit.wf, IntKind.min, IntKind.max, IntKind.signed, IntKind.bits] at this
  omega
theorem kept_f (l : List Int) (h : l.length ≤ 200) : letterbagkit_KeptBytes.f l l = some true := by
  unfold letterbagkit_KeptBytes.f
  rw [if_pos ⟨rfl, by omega⟩]
theorem lent_f (l : List Int) (h : l.length ≤ 200) : letterbagkit_LentBytes.f l = some l := by
  unfold letterbagkit_LentBytes.f
  rw [if_pos (by omega)]
theorem over_f (l : List Int) (h : l.length ≤ 200) : letterbagkit_OverBytes.f l = some () := by
  unfold letterbagkit_OverBytes.f
  rw [if_pos (by omega)]
/-- The two lists' error. -/
def er1 (l : List Int) : Int := if 128 < l.length then 3 else if l.any badEl then 2 else 0
def er2 (l m : List Int) : Int := if 128 < l.length ∨ 128 < m.length then 3 else if l.any badEl then 2 else if m.any badEl then 2 else 0
theorem er1_f (l : List Int) : field_check.f [l] = some (er1 l) := err_one l
theorem er2_f (l m : List Int) : field_check.f [l, m] = some (er2 l m) := err_two l m
theorem rer1 (l : List Int) (hl : l.length ≤ 200) (k : Nat) (hk : 3000 ≤ k) : letterbagref18_Error.f k l [] = some (er1 l) := by
  rw [rErr l [] (by omega) (by simp) k hk, er1]
  simp
theorem rer2 (l m : List Int) (hl : l.length ≤ 200) (hm : m.length ≤ 200) (k : Nat) (hk : 3000 ≤ k) : letterbagref18_Error.f k l m = some (er2 l m) := rErr l m (by omega) (by omega) k hk
theorem er1_zero {l : List Int} (h : er1 l = 0) (h0 : ∀ x ∈ l, 0 ≤ x) : ∃ p : Poly, l = IL p ∧ p.length ≤ 128 := by
  unfold er1 at h
  by_cases h1 : 128 < l.length
  · rw [if_pos h1] at h
    exact absurd h (by decide)
  · rw [if_neg h1] at h
    cases hb : l.any badEl
    · obtain ⟨p, h2, h3⟩ := poly_of hb h0
      exact ⟨p, h2, by omega⟩
    · rw [hb] at h
      exact absurd h (by decide)
theorem er2_zero {l m : List Int} (h : er2 l m = 0) : er1 l = 0 ∧ er1 m = 0 := by
  unfold er2 at h
  unfold er1
  by_cases h1 : 128 < l.length ∨ 128 < m.length
  · rw [if_pos h1] at h
    exact absurd h (by decide)
  · rw [if_neg h1] at h
    have h2 : ¬ 128 < l.length := fun e => h1 (.inl e)
    have h3 : ¬ 128 < m.length := fun e => h1 (.inr e)
    rw [if_neg h2, if_neg h3]
    cases hb : l.any badEl <;> cases hc : m.any badEl <;> simp [hb, hc] at h ⊢
end Go.Proofs.YtehgfpfmpkmdmaaDoor.Print

namespace Go.Proofs.YtehgfpfmpkmdmaaDoor.Print
open Go.RowKit Go.Proofs.YtehgfpfmpkmdmaaDoorW.PrintWords Go.Proofs.YtehgfpfmpkmdmaaDoorW.PrintLast Go.Proofs.YtehgfpfmpkmdmaaDoorW.PrintMore
open Go.Proofs.YtehgfpfmpkmdmaaDoor.Gf
theorem polys_j4 (p q : Poly) (hp : p.length ≤ 128) (hq : q.length ≤ 128) (d r : List Int) (e : Int) (K : Nat) (hK : 600000 ≤ K) (hd : field_Divide.f K (IL p) (IL q) = some (d, r, e)) (k : Nat) (hk : 30000 ≤ k) :
    letterbaglaw18_FieldPolys.j4 (k + 1) (IL p) (IL q) d r e = some true := by
  have ha : letterbaglaw18_awake.f = some true := rfl
  have lp := dg_len p
  have lq := dg_len q
  rw [letterbaglaw18_FieldPolys.j4, rDeg q (by omega) k (by omega), Option.bind_some]
  by_cases h0 : dg q = 0
  · unfold field_Divide.f at hd
    have h1 : (tr q).length = 0 := h0
    rw [check_two p q hp hq, Option.bind_some, if_pos rfl, trim_f q (by omega) K (by omega), Option.bind_some, IL_len, h1, if_pos (by rfl)] at hd
    injection hd with hd
    injection hd with h2 h3
    injection h3 with h3 h4
    subst h2 h3 h4
    rw [if_pos (by omega), if_pos rfl, if_pos (by simp [wrap64]), ha]
    rfl
  · obtain ⟨d1, r1, h1, td, tR, hr, he⟩ := Divide_f p q hp hq (by omega) K hK
    obtain ⟨d2, r2, h2, td2, tr2, hr2, he2⟩ := rDiv p q (by omega) (by omega) (by omega) k (by omega)
    obtain ⟨u1, u2⟩ := div_unique hr hr2 (he.symm.trans he2)
    have e1 : d1 = d2 := by rw [← td, ← td2]; exact tr_canon u1
    have e2 : r1 = r2 := by rw [← tR, ← tr2]; exact tr_canon u2
    subst e1 e2
    rw [hd] at h1
    injection h1 with h1
    injection h1 with h3 h4
    injection h4 with h4 h5
    subst h3 h4 h5
    obtain ⟨b1, b2⟩ := div_bounds (by omega) hr he
    have ld := len_of_tr td
    have lr := len_of_tr tR
    rw [if_neg (by omega), h2, Option.bind_some, if_pos rfl]
    simp only
    rw [same_f _ (by rw [IL_len]; omega) k (by rw [IL_len]; omega), Option.bind_some, if_pos rfl, same_f _ (by rw [IL_len]; omega) k (by rw [IL_len]; omega), Option.bind_some, if_pos rfl, ha]
    rfl
theorem fieldPolys_pure : letterbaglaw18_FieldPolys.Pure := by
  intro l0 l1 _ _ w0 _ _ w1
  have ha : letterbaglaw18_awake.f = some true := rfl
  refine ⟨2000005, ?_⟩
  unfold letterbaglaw18_FieldPolys.f
  by_cases c0 : l0.length > 200
  · rw [if_pos (by omega), letterbaglaw18_FieldPolys.j0, if_pos rfl, ha]
    rfl
  rw [if_neg (by omega)]
  by_cases c1 : l1.length > 200
  · rw [show decide ((l1.length : Int) > 200) = true from decide_eq_true (by omega), letterbaglaw18_FieldPolys.j0, if_pos rfl, ha]
    rfl
  rw [show decide ((l1.length : Int) > 200) = false from decide_eq_false (by omega), letterbaglaw18_FieldPolys.j0, if_neg (by decide), lent_f l0 (by omega), Option.bind_some, lent_f l1 (by omega), Option.bind_some]
  by_cases hE2 : er2 l0 l1 = 0
  · obtain ⟨z0, z1⟩ := er2_zero hE2
    obtain ⟨p, rfl, hp⟩ := er1_zero z0 (u8_nonneg w0)
    obtain ⟨q, rfl, hq⟩ := er1_zero z1 (u8_nonneg w1)
    have lp := dg_len p
    have lq := dg_len q
    have lm := mul_dg_le p q
    have la : dg (addP p q) ≤ 128 := dg_add_le (by omega) (by omega)
    obtain ⟨⟨dd, rr, ee⟩, hd⟩ : ∃ x, field_Divide.f 2000004 (IL p) (IL q) = some x := by
      by_cases h0 : dg q = 0
      · refine ⟨([], [], 6), ?_⟩
        have h1 : (tr q).length = 0 := h0
        unfold field_Divide.f
        rw [check_two p q hp hq, Option.bind_some, if_pos rfl, trim_f q (by omega) _ (by omega), Option.bind_some, IL_len, h1, if_pos (by rfl)]
      · obtain ⟨d1, r1, h1, _⟩ := Divide_f p q hp hq (by omega) 2000004 (by omega)
        exact ⟨_, h1⟩
    have hpr : field_Product.f (IL p) (IL q) = some (if 128 < dg (mulP p q) then (([] : List Int), 5) else (IL (tr (mulP p q)), 0)) := by
      unfold field_Product.f
      rw [check_two p q hp hq, Option.bind_some, if_pos rfl, product_f p q (by omega) (by omega), Option.bind_some, IL_len, len_dg]
      by_cases h : 128 < dg (mulP p q)
      · rw [if_pos (by omega), if_pos h]
      · rw [if_neg (by omega), if_neg h]
    rw [Trim_f p hp _ (by omega), Option.bind_some, Degree_f p hp _ (by omega), Option.bind_some, Sum_f p q hp hq, Option.bind_some, hpr, Option.bind_some, hd, Option.bind_some, kept_f _ (by omega), Option.bind_some, if_pos rfl, kept_f _ (by omega), Option.bind_some]
    simp only [Bool.not_true]
    rw [letterbaglaw18_FieldPolys.j1, if_neg (by decide), over_f _ (by omega), Option.bind_some, over_f _ (by omega), Option.bind_some, rer1 _ (by omega) _ (by omega), Option.bind_some, rer2 _ _ (by omega) (by omega) _ (by omega), Option.bind_some, z0, hE2, if_pos rfl, if_pos rfl]
    rw [letterbaglaw18_FieldPolys.j2, if_neg (by decide), if_pos rfl, rTrim p (by omega) _ (by omega), Option.bind_some, same_f _ (by rw [IL_len, len_dg]; omega) _ (by rw [IL_len, len_dg]; omega), Option.bind_some, if_pos rfl, rDeg p (by omega) _ (by omega), Option.bind_some, if_pos rfl]
    rw [letterbaglaw18_FieldPolys.j3, if_pos rfl, rSum p q (by omega) (by omega) _ (by omega), Option.bind_some, same_f _ (by rw [IL_len, len_dg]; omega) _ (by rw [IL_len, len_dg]; omega), Option.bind_some, if_pos rfl, rProd p q (by omega) (by omega) _ (by omega), Option.bind_some, IL_len, len_dg]
    by_cases h : 128 < dg (mulP p q)
    · rw [if_pos (by omega), if_pos h]
      simp only
      rw [if_pos trivial, if_pos (by rfl)]
      exact polys_j4 p q hp hq dd rr ee _ (by omega) hd _ (by omega)
    · rw [if_neg (by omega), if_neg h]
      simp only
      rw [if_pos trivial, same_f _ (by rw [IL_len, len_dg]; omega) _ (by rw [IL_len, len_dg]; omega), Option.bind_some, if_pos rfl]
      exact polys_j4 p q hp hq dd rr ee _ (by omega) hd _ (by omega)
  · have hsum : field_Sum.f l0 l1 = some ([], er2 l0 l1) := by unfold field_Sum.f; rw [er2_f, Option.bind_some, if_neg hE2]
    have hpro : field_Product.f l0 l1 = some ([], er2 l0 l1) := by unfold field_Product.f; rw [er2_f, Option.bind_some, if_neg hE2]
    have hdiv : field_Divide.f 2000004 l0 l1 = some ([], [], er2 l0 l1) := by unfold field_Divide.f; rw [er2_f, Option.bind_some, if_neg hE2]
    have last : ∀ k : Nat, letterbaglaw18_FieldPolys.j3 (k + 1) l0 l1 [] [] (er2 l0 l1) [] [] (er2 l0 l1) (er2 l0 l1) = some true := by
      intro k
      rw [letterbaglaw18_FieldPolys.j3, if_neg hE2, if_pos rfl, if_pos rfl, if_pos (by simp [wrap64]), ha]
      rfl
    by_cases hE1 : er1 l0 = 0
    · obtain ⟨p, rfl, hp⟩ := er1_zero hE1 (u8_nonneg w0)
      have lp := dg_len p
      rw [Trim_f p hp _ (by omega), Option.bind_some, Degree_f p hp _ (by omega), Option.bind_some, hsum, Option.bind_some, hpro, Option.bind_some, hdiv, Option.bind_some, kept_f _ (by omega), Option.bind_some, if_pos rfl, kept_f _ (by omega), Option.bind_some]
      simp only [Bool.not_true]
      rw [letterbaglaw18_FieldPolys.j1, if_neg (by decide), over_f _ (by omega), Option.bind_some, over_f _ (by omega), Option.bind_some, rer1 _ (by omega) _ (by omega), Option.bind_some, rer2 _ _ (by omega) (by omega) _ (by omega), Option.bind_some, hE1, if_pos rfl, if_pos rfl, show (er2 (IL p) l1 != er2 (IL p) l1) = false from bne_self_eq_false _]
      rw [letterbaglaw18_FieldPolys.j2, if_neg (by decide), if_pos rfl, rTrim p (by omega) _ (by omega), Option.bind_some, same_f _ (by rw [IL_len, len_dg]; omega) _ (by rw [IL_len, len_dg]; omega), Option.bind_some, if_pos rfl, rDeg p (by omega) _ (by omega), Option.bind_some, if_pos rfl]
      exact last _
    · have htri : field_Trim.f 2000004 l0 = some ([], er1 l0) := by unfold field_Trim.f; rw [er1_f, Option.bind_some, if_neg hE1]
      have hdeg : field_Degree.f 2000004 l0 = some (0, er1 l0) := by unfold field_Degree.f; rw [er1_f, Option.bind_some, if_neg hE1]
      rw [htri, Option.bind_some, hdeg, Option.bind_some, hsum, Option.bind_some, hpro, Option.bind_some, hdiv, Option.bind_some, kept_f _ (by omega), Option.bind_some, if_pos rfl, kept_f _ (by omega), Option.bind_some]
      simp only [Bool.not_true]
      rw [letterbaglaw18_FieldPolys.j1, if_neg (by decide), over_f _ (by omega), Option.bind_some, over_f _ (by omega), Option.bind_some, rer1 _ (by omega) _ (by omega), Option.bind_some, rer2 _ _ (by omega) (by omega) _ (by omega), Option.bind_some, if_pos rfl, if_pos rfl, show (er2 l0 l1 != er2 l0 l1) = false from bne_self_eq_false _]
      rw [letterbaglaw18_FieldPolys.j2, if_neg (by decide), if_neg hE1, if_pos (by rfl), if_pos rfl]
      exact last _
end Go.Proofs.YtehgfpfmpkmdmaaDoor.Print
