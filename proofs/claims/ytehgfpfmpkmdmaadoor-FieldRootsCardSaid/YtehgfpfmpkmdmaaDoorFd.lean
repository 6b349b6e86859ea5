/- The program's division: quotient times divisor and the rest are the polynomial again, the rest is less than the divisor. Plain Lean. -/
import Derived.Test.YtehgfpfmpkmdmaaDoorFi
import Derived.Test.YtehgfpfmpkmdmaaDoorPrint5
namespace Go.Proofs.YtehgfpfmpkmdmaaDoor.Print
open Go.RowKit Go.Proofs.YtehgfpfmpkmdmaaDoorW.PrintWords Go.Proofs.YtehgfpfmpkmdmaaDoorW.PrintLast Go.Proofs.YtehgfpfmpkmdmaaDoorW.PrintMore
open Go.Proofs.YtehgfpfmpkmdmaaDoor.Gf

def mono (i : Nat) (c : F) : Poly := List.replicate i 0 ++ [c]
theorem cf_mono (i : Nat) (c : F) (n : Nat) : cf (mono i c) n = if n = i then c else 0 := by
  simp only [cf, mono, List.getD_eq_getElem?_getD, List.getElem?_append, List.length_replicate, List.getElem?_replicate]
  rcases Nat.lt_trichotomy n i with h | h | h
  · simp [h, Nat.ne_of_lt h]
  · subst h
    simp
  · rw [if_neg (by omega), if_neg (by omega), List.getElem?_eq_none (by simp; omega)]
    rfl
theorem cf_mul_mono (i : Nat) (c : F) (q : Poly) (n : Nat) : cf (mulP (mono i c) q) n = if i ≤ n then c * cf q (n - i) else 0 := by
  rw [cf_mul]
  by_cases h : i ≤ n
  · rw [if_pos h, sn_one (j := i) (by omega)]
    · rw [cf_mono, if_pos rfl]
    · intro k _ hk
      rw [cf_mono, if_neg hk, zero_mul]
  · rw [if_neg h, sn_zero]
    intro k hk
    rw [cf_mono, if_neg (by omega), zero_mul]
theorem addAtP_eqv (d : Poly) (i : Nat) (c : F) (h : i < d.length) : Eqv (addAtP d i c) (addP d (mono i c)) := fun n => by
  rw [cf_addAtP _ _ _ _ h, cf_add, cf_mono]
  split
  · rfl
  · rw [add_zero]
theorem mulRowP_eqv (i : Nat) (c : F) (q o : Poly) (h : i + q.length ≤ o.length) : Eqv (mulRowP i c 0 q o) (addP o (mulP (mono i c) q)) := fun n => by
  rw [cf_mulRowP _ _ _ _ _ _ (by omega), cf_add, cf_mul_mono, Nat.add_zero]
/-- One step of a division. -/
theorem div_step {p d q rest : Poly} (i : Nat) (c : F) (hd : i < d.length) (hr : i + q.length ≤ rest.length) (h : Eqv p (addP (mulP d q) rest)) : Eqv p (addP (mulP (addAtP d i c) q) (mulRowP i c 0 q rest)) := fun n => by
  rw [h n, cf_add, cf_add, mulRowP_eqv i c q rest hr n, cf_add, mul_eqv (addAtP_eqv d i c hd) (Eqv.refl q) n, add_mulP d (mono i c) q n, cf_add]
  generalize cf (mulP d q) n = x
  generalize cf rest n = y
  generalize cf (mulP (mono i c) q) n = z
  calc x + y = x + y + (z + z) := by rw [add_self, add_zero]
    _ = x + z + (y + z) := by ac_rfl

theorem mulRowP_drop (i : Nat) (c : F) (q o : Poly) (k : Nat) (h : k < q.length) : mulRowP i c k (q.drop k) o = mulRowP i c (k + 1) (q.drop (k + 1)) (addAtP o (i + k) (c * cf q k)) := by
  rw [List.drop_eq_getElem_cons h, mulRowP, cf_get h]
theorem divide_l1 (q d : Poly) (c : F) (top : Int) (i : Nat) (hi : i < d.length) (hc : cf d i = c) (hil : i ≤ 100000) (hq : q.length ≤ 100000) : ∀ (e k K : Nat) (rest : Poly), k + e = q.length → i + q.length ≤ rest.length →
    field_divide.l1 (K + e + 1) (IL q) (IL rest) (IL d) top (i : Int) (IL q) (q.length : Int) (k : Int) = field_divide.l0 K (IL q) (IL (mulRowP i c k (q.drop k) rest)) (IL d) top ((i : Int) - 1)
  | 0, k, K, rest, he, hr => by
    rw [field_divide.l1, if_neg (by omega), w64 (by omega) (by omega), List.drop_of_length_le (by omega), mulRowP]
  | e + 1, k, K, rest, he, hr => by
    rw [show K + (e + 1) + 1 = (K + e + 1) + 1 by omega, field_divide.l1, w64 (x := (i : Int) + (k : Int)) (by omega) (by omega), if_pos (by omega), if_pos (by omega), if_pos (by rw [IL_len]; omega), if_pos (by omega), if_pos (by rw [IL_len]; omega), if_pos (by omega), if_pos (by rw [IL_len]; omega), rd_ILn, rd_ILn, hc, mul_ofF, Option.bind_some,
      show (i : Int) + (k : Int) = ((i + k : Nat) : Int) by omega, rd_ILn, bx_ofF, Int.toNat_natCast, IL_set, w64 (by omega) (by omega)]
    have := divide_l1 q d c top i hi hc hil hq e (k + 1) K (addAtP rest (i + k) (c * cf q k)) (by omega) (by rw [addAtP_len]; exact hr)
    rw [← mulRowP_drop i c q rest k (by omega)] at this
    exact this
theorem set_addAtP (d : Poly) (i : Nat) (c : F) (h : cf d i = 0) : d.set i c = addAtP d i c := by
  unfold addAtP
  rw [h, zero_add]
theorem dg_add_lt {s r : Poly} (h : dg r < dg s) : dg (addP s r) = dg s := by
  have := dg_eq (p := addP s r) (n := dg s - 1) (fun i hi => by rw [cf_add, dg_ge (by omega), dg_ge (by omega), add_zero]) (by rw [cf_add, dg_ge (p := r) (by omega), add_zero]; exact dg_top (by omega))
  omega
theorem divide_l0 (p q : Poly) (m L N : Nat) (hm : q.length = m) (hm1 : 1 ≤ m) (htop : cf q (m - 1) ≠ 0) (hL : L ≤ 1000) (hN : N ≤ 1000) (hm2 : m ≤ 1000) : ∀ (n K : Nat) (rest d : Poly), rest.length = L → d.length = N → n ≤ N → (1 ≤ n → n + m ≤ L + 1) → (∀ j, n + m - 1 ≤ j → cf rest j = 0) → (∀ j, j < n → cf d j = 0) → Eqv p (addP (mulP d q) rest) → n * (m + 2) + L + 3 ≤ K →
    ∃ d' r' : Poly, field_divide.l0 K (IL q) (IL rest) (IL d) (ofF (Gf.inv (cf q (m - 1)))) ((n : Int) - 1) = some (IL d', IL (tr r')) ∧ d'.length = N ∧ dg r' < m ∧ Eqv p (addP (mulP d' q) r')
  | 0, K, rest, d, hrl, hdl, _, _, hz, _, he, hk => by
    obtain ⟨K, rfl⟩ : ∃ j, K = j + 1 := ⟨K - 1, by omega⟩
    refine ⟨d, rest, ?_, hdl, ?_, he⟩
    · rw [field_divide.l0, if_neg (by omega), trim_f rest (by omega) K (by omega), Option.bind_some]
    · have := dg_le (p := rest) (n := m - 1) (fun i hi => hz i (by omega))
      omega
  | n + 1, K, rest, d, hrl, hdl, hnN, hnL, hz, hd0, he, hk => by
    have h1 := hnL (by omega)
    obtain ⟨K', hK'⟩ : ∃ j, K = (j + m + 1) + 1 := ⟨K - m - 2, by
      have : (n + 1) * (m + 2) = n * (m + 2) + (m + 2) := Nat.succ_mul _ _
      omega⟩
    have hmul : (n + 1) * (m + 2) = n * (m + 2) + (m + 2) := Nat.succ_mul _ _
    obtain ⟨c, hc⟩ : ∃ c, c = cf rest (n + m - 1) * Gf.inv (cf q (m - 1)) := ⟨_, rfl⟩
    have hstep : field_divide.l0 K (IL q) (IL rest) (IL d) (ofF (Gf.inv (cf q (m - 1)))) (((n + 1 : Nat) : Int) - 1) = field_divide.l0 K' (IL q) (IL (mulRowP n c 0 q rest)) (IL (addAtP d n c)) (ofF (Gf.inv (cf q (m - 1)))) ((n : Int) - 1) := by
      rw [hK', show (((n + 1 : Nat) : Int) - 1) = (n : Int) by omega, field_divide.l0, IL_len, w64 (x := (n : Int) + ((q.length : Nat) : Int)) (by omega) (by omega), w64 (x := (n : Int) + ((q.length : Nat) : Int) - 1) (by omega) (by omega), if_pos (by omega), if_pos (by omega), if_pos (by rw [IL_len]; omega),
        show (n : Int) + ((q.length : Nat) : Int) - 1 = ((n + m - 1 : Nat) : Int) by omega, rd_ILn, mul_ofF, Option.bind_some, ← hc, if_pos (by omega), if_pos (by rw [IL_len]; omega), Int.toNat_natCast, IL_set, set_addAtP d n c (hd0 n (by omega)), ← hm]
      have := divide_l1 q (addAtP d n c) c (ofF (Gf.inv (cf q (m - 1)))) n (by rw [addAtP_len]; omega) (by rw [cf_addAtP _ _ _ _ (by omega), if_pos rfl, hd0 n (by omega), zero_add]) (by omega) (by omega) q.length 0 K' rest (by omega) (by omega)
      rw [List.drop_zero] at this
      rw [hm] at this ⊢
      exact this
    obtain ⟨d', r', h2, h3, h4, h5⟩ := divide_l0 p q m L N hm hm1 htop hL hN hm2 n K' (mulRowP n c 0 q rest) (addAtP d n c) (by rw [mulRowP_len]; exact hrl) (by rw [addAtP_len]; exact hdl) (by omega) (fun _ => by omega) (fun j hj => by
        rw [mulRowP_eqv n c q rest (by omega) j, cf_add, cf_mul_mono, if_pos (by omega)]
        by_cases e : j = n + m - 1
        · subst e
          rw [show n + m - 1 - n = m - 1 by omega, hc, mul_assoc, inv_mul htop, mul_one, add_self]
        · rw [hz j (by omega), cf_ge (p := q) (by omega), mul_zero, add_zero]) (fun j hj => by rw [cf_addAtP _ _ _ _ (by omega), if_neg (by omega)]; exact hd0 j (by omega))
      (div_step n c (by omega) (by omega) he) (by omega)
    exact ⟨d', r', hstep.trans h2, h3, h4, h5⟩
theorem len_dg (p : Poly) : (tr p).length = dg p := rfl
/-- The program's division, by a polynomial that is not 0. -/
theorem divide_f (p q : Poly) (hp : p.length ≤ 500) (hq : q.length ≤ 500) (hq0 : 0 < dg q) (K : Nat) (hK : 600000 ≤ K) :
    ∃ d r : Poly, field_divide.f K (IL p) (IL q) = some (IL d, IL r) ∧ tr d = d ∧ tr r = r ∧ dg r < dg q ∧ Eqv p (addP (mulP d q) r) := by
  have lp := tr_len p
  have lq := tr_len q
  have htop : cf (tr q) (dg q - 1) ≠ 0 := by rw [tr_eqv q]; exact dg_top hq0
  have hlq : (tr q).length = dg q := rfl
  have hlp : (tr p).length = dg p := rfl
  unfold field_divide.f
  rw [trim_f p (by omega) K (by omega), Option.bind_some, trim_f q (by omega) K (by omega), Option.bind_some, IL_len, IL_len]
  by_cases hlt : dg p < dg q
  · rw [if_pos (by omega)]
    refine ⟨[], tr p, rfl, rfl, tr_tr p, by rw [dg_tr]; exact hlt, fun i => ?_⟩
    rw [cf_add, mulP, cf_nil, zero_add, tr_eqv]
  · rw [if_neg (by omega), w64 (x := (((tr p).length : Nat) : Int) - (((tr q).length : Nat) : Int)) (by omega) (by omega), w64 (x := (((tr p).length : Nat) : Int) - (((tr q).length : Nat) : Int) + 1) (by omega) (by omega), w64 (x := (((tr q).length : Nat) : Int) - 1) (by omega) (by omega)]
    obtain ⟨N, hN⟩ : ∃ N, N = dg p - dg q + 1 := ⟨_, rfl⟩
    rw [show (((tr p).length : Nat) : Int) - (((tr q).length : Nat) : Int) + 1 = (N : Int) by omega, if_pos (by omega), Int.toNat_natCast, if_pos (by omega), Option.bind_some, if_pos (by omega), if_pos (by omega), show (((tr q).length : Nat) : Int) - 1 = ((dg q - 1 : Nat) : Int) by omega, rd_ILn, inv_ofF htop, Option.bind_some, List.length_replicate, w64 (x := ((N : Nat) : Int) - 1) (by omega) (by omega),
      show List.replicate N (0 : Int) = IL (List.replicate N 0) by simp [IL, ofF_zero]]
    have hle : N * (dg q + 2) ≤ 501 * 502 := Nat.mul_le_mul (by omega) (by omega)
    obtain ⟨d, r, h1, h2, h3, h4⟩ := divide_l0 (tr p) (tr q) (dg q) (dg p) N hlq (by omega) htop (by omega) (by omega) (by omega) N K (tr p) (List.replicate N 0) hlp (by rw [List.length_replicate]) (Nat.le_refl _) (fun _ => by omega) (fun j hj => cf_ge (by omega)) (fun j _ => cf_rep _ _) (fun i => by
      rw [cf_add, mul_nil (.inl (fun i => cf_rep _ i)) i, cf_nil, zero_add]) (by omega)
    have h5 : Eqv p (addP (mulP d q) r) := fun i => by
      rw [← tr_eqv p i, h4 i, cf_add, cf_add, mul_eqv (Eqv.refl d) (tr_eqv q) i]
    refine ⟨d, tr r, h1, ?_, tr_tr r, by rw [dg_tr]; exact h3, h5.trans (add_eqv (Eqv.refl _) (tr_eqv r).symm)⟩
    refine tr_len_eq ?_
    have hdd : 0 < dg d := by
      rcases Nat.eq_zero_or_pos (dg d) with h | h
      · have := dg_eqv (h5.trans (fun i => by rw [cf_add, mul_nil (.inl (dg_zero h)) i, cf_nil, zero_add]) : Eqv p r)
        omega
      · exact h
    have hm := dg_mul hdd hq0
    have := dg_eqv h5
    rw [dg_add_lt (by omega), hm] at this
    omega
end Go.Proofs.YtehgfpfmpkmdmaaDoor.Print
