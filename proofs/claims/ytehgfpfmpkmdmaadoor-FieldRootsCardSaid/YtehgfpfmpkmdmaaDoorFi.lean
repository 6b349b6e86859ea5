/- The program's functions on polynomials answer what the plain polynomials say: check, trim, sum, product, eval, SameBytes, elements. Plain Lean. -/
import Derived.Test.YtehgfpfmpkmdmaaDoorGb
import Derived.Test.YtehgfpfmpkmdmaaDoorGs
import Derived.Test.YtehgfpfmpkmdmaaDoorGe
import Derived.Test.YtehgfpfmpkmdmaaDoorPrint7
import Derived.Test.YtehgfpfmpkmdmaaDoorPrint29
namespace Go.Proofs.YtehgfpfmpkmdmaaDoor.Print
open Go.RowKit Go.Proofs.YtehgfpfmpkmdmaaDoorW.PrintWords Go.Proofs.YtehgfpfmpkmdmaaDoorW.PrintLast Go.Proofs.YtehgfpfmpkmdmaaDoorW.PrintMore
open Go.Proofs.YtehgfpfmpkmdmaaDoor.Gf

def toF (x : Int) : F := ⟨x.toNat % 64, Nat.mod_lt _ (by decide)⟩
def ofF (a : F) : Int := (a.v : Int)
def IL (p : Poly) : List Int := p.map ofF
theorem toF_ofF (a : F) : toF (ofF a) = a := F.ext (by
  have := a.h
  simp only [toF, ofF]
  omega)
theorem ofF_inj {a b : F} (h : ofF a = ofF b) : a = b := by rw [← toF_ofF a, h, toF_ofF]
theorem ofF_toF {x : Int} (h : elB x = true) : ofF (toF x) = x := by
  rw [elB_iff] at h
  simp only [toF, ofF]
  omega
theorem el_ofF (a : F) : elB (ofF a) = true := by
  have := a.h
  rw [elB_iff]
  unfold ofF
  omega
theorem ofF_zero : ofF 0 = 0 := rfl
theorem ofF_one : ofF 1 = 1 := rfl
theorem ofF_eq_zero {a : F} : ofF a = 0 ↔ a = 0 := ⟨fun h => ofF_inj (h.trans ofF_zero.symm), fun h => by rw [h]; rfl⟩
theorem IL_of {l : List Int} (h : l.all elB = true) : ∃ p : Poly, l = IL p ∧ p.length = l.length := by
  refine ⟨l.map toF, ?_, by simp⟩
  unfold IL
  rw [List.map_map]
  refine (List.map_id l).symm.trans (List.map_congr_left fun x hx => ?_)
  exact (ofF_toF (List.all_eq_true.1 h x hx)).symm
theorem IL_len (p : Poly) : (IL p).length = p.length := by simp [IL]
theorem IL_all (p : Poly) : (IL p).all elB = true := by
  rw [List.all_eq_true]
  intro x hx
  obtain ⟨a, _, rfl⟩ := List.mem_map.1 hx
  exact el_ofF a
theorem IL_inj {p q : Poly} (h : IL p = IL q) : p = q := by
  have := congrArg (List.map toF) h
  simpa [IL, List.map_map, Function.comp_def, toF_ofF] using this
theorem rd_IL (p : Poly) (i : Int) : rd (IL p) i = ofF (cf p i.toNat) := by
  simp only [rd, IL, cf, List.getD_eq_getElem?_getD, List.getElem?_map]
  cases p[i.toNat]? <;> rfl
theorem rd_ILn (p : Poly) (i : Nat) : rd (IL p) (i : Int) = ofF (cf p i) := by rw [rd_IL, Int.toNat_natCast]
theorem IL_take (p : Poly) (n : Nat) : (IL p).take n = IL (p.take n) := by simp [IL]
theorem IL_set (p : Poly) (n : Nat) (a : F) : (IL p).set n (ofF a) = IL (p.set n a) := by simp [IL, List.map_set]
theorem mI_ofF (a b : F) : mI (ofF a) (ofF b) = ofF (a * b) := by
  unfold mI ofF
  rw [mul_v]
  simp
theorem bx_ofF (a b : F) : Go.bits .xor .u8 (ofF a) (ofF b) = ofF (a + b) := by
  have := bx_el (el_ofF a) (el_ofF b)
  unfold bx at this
  rw [this]
  unfold ofF
  rw [add_v]
  simp
theorem mul_ofF (a b : F) : field_mul.f (ofF a) (ofF b) = some (ofF (a * b)) := by rw [mul_mI (el_ofF a) (el_ofF b), mI_ofF]
theorem inv_ofF {a : F} (h : a ≠ 0) : field_inv.f (ofF a) = some (ofF (Gf.inv a)) := by
  unfold field_inv.f
  have h1 := a.h
  have h2 := ne_v h
  rw [if_pos (by rw [unitB_iff]; unfold ofF; omega)]
  simp [ofF, Gf.inv]
theorem w64 {x : Int} (h0 : -1000000000000 ≤ x) (h1 : x ≤ 1000000000000) : wrap64 x = x := by unfold wrap64; omega

/-! ### check -/
theorem bad_IL (p : Poly) : (IL p).any badEl = false := by
  rw [List.any_eq_false]
  intro x hx
  have := List.all_eq_true.1 (IL_all p) x hx
  rw [elB_iff] at this
  simp [badEl]
  omega
theorem check_one (p : Poly) (h : p.length ≤ 128) : field_check.f [IL p] = some 0 := by
  unfold field_check.f
  simp [longL, IL_len, bad_IL]
  omega
theorem check_two (p q : Poly) (h : p.length ≤ 128) (h' : q.length ≤ 128) : field_check.f [IL p, IL q] = some 0 := by
  unfold field_check.f
  simp [longL, IL_len, bad_IL]
  omega

/-! ### trim -/
theorem clone_f (l : List Int) (h : l.length ≤ 100000) : slices_Clone_uint8_uint8.f l = some l := by
  unfold slices_Clone_uint8_uint8.f
  rw [if_pos (by omega)]
theorem take_tr {p : Poly} {n : Nat} (hz : ∀ i, n + 1 ≤ i → cf p i = 0) (h0 : cf p n ≠ 0) : p.take (n + 1) = tr p := by
  have hn : n < p.length := by
    rcases Nat.lt_or_ge n p.length with h | h
    · exact h
    · exact absurd (cf_ge h) h0
  refine tr_eq_of (fun i => ?_) (.inr ?_)
  · rcases Nat.lt_or_ge i (n + 1) with h | h
    · simp only [cf, List.getD_eq_getElem?_getD, List.getElem?_take]
      rw [if_pos h]
    · rw [hz i h, cf_ge (by rw [List.length_take]; omega)]
  · have hl : (p.take (n + 1)).length - 1 = n := by rw [List.length_take]; omega
    rw [hl]
    have : cf (p.take (n + 1)) n = cf p n := by
      simp only [cf, List.getD_eq_getElem?_getD, List.getElem?_take]
      rw [if_pos (by omega)]
    rw [this]
    exact h0
theorem trim_l (p : Poly) (hp : p.length ≤ 100000) : ∀ (n k : Nat), n ≤ p.length → (∀ i, n ≤ i → cf p i = 0) → n < k → field_trim.l0 k (IL p) (n : Int) = some (IL (tr p))
  | 0, k, _, hz, hk => by
    obtain ⟨k, rfl⟩ : ∃ m, k = m + 1 := ⟨k - 1, by omega⟩
    rw [field_trim.l0, if_neg (by omega), if_pos (by omega), if_pos (by omega)]
    have : tr p = [] := tr_nil_of (fun i => hz i (by omega))
    rw [this]
    rfl
  | n + 1, k, hn, hz, hk => by
    obtain ⟨k, rfl⟩ : ∃ m, k = m + 1 := ⟨k - 1, by omega⟩
    have hw : wrap64 (((n + 1 : Nat) : Int) - 1) = (n : Int) := by rw [w64 (by omega) (by omega)]; omega
    rw [field_trim.l0, if_pos (by omega), hw, if_pos (by omega), if_pos (by rw [IL_len]; omega), rd_ILn]
    by_cases h0 : cf p n = 0
    · rw [if_pos (by rw [h0]; rfl)]
      exact trim_l p hp n k (by omega) (fun i hi => by
        rcases Nat.lt_or_ge n i with h | h
        · exact hz i (by omega)
        · rw [show i = n by omega]; exact h0) (by omega)
    · rw [if_neg (fun h => h0 (ofF_eq_zero.1 h)), if_pos (by omega), if_pos (by rw [IL_len]; omega), Int.toNat_natCast, clone_f _ (by rw [List.length_take, IL_len]; omega), Option.bind_some, IL_take, take_tr hz h0]
theorem trim_f (p : Poly) (hp : p.length ≤ 100000) (k : Nat) (hk : p.length < k) : field_trim.f k (IL p) = some (IL (tr p)) := by
  unfold field_trim.f
  rw [IL_len]
  exact trim_l p hp p.length k (Nat.le_refl _) (fun i hi => cf_ge hi) hk

/-! ### sum -/
theorem cf_set (o : Poly) (n : Nat) (a : F) (i : Nat) (hn : n < o.length) : cf (o.set n a) i = if i = n then a else cf o i := by
  simp only [cf, List.getD_eq_getElem?_getD, List.getElem?_set]
  by_cases h : n = i
  · subst h
    simp [hn]
  · rw [if_neg h, if_neg (fun e => h e.symm)]
theorem sum_l (p q : Poly) (hp : p.length ≤ 100000) (hq : q.length ≤ p.length) : ∀ (d i k : Nat) (o : Poly), i + d = q.length → o.length = p.length → (∀ j, cf o j = cf p j + if j < i then cf q j else 0) → d + p.length + 1 < k → field_sumK.l0 k (IL o) (IL q) (q.length : Int) (i : Int) = some (IL (tr (addP p q)))
  | 0, i, k, o, hd, hl, hc, hk => by
    obtain ⟨k, rfl⟩ : ∃ m, k = m + 1 := ⟨k - 1, by omega⟩
    rw [field_sumK.l0, if_neg (by omega), trim_f o (by omega) k (by omega), Option.bind_some]
    congr 2
    refine tr_canon fun j => ?_
    rw [hc j, cf_add]
    by_cases h : j < i
    · rw [if_pos h]
    · rw [if_neg h, cf_ge (p := q) (by omega)]
  | d + 1, i, k, o, hd, hl, hc, hk => by
    obtain ⟨k, rfl⟩ : ∃ m, k = m + 1 := ⟨k - 1, by omega⟩
    rw [field_sumK.l0, if_pos (by omega), if_pos (by omega), if_pos (by rw [IL_len]; omega), if_pos (by rw [IL_len]; omega), rd_ILn, rd_ILn, bx_ofF, Int.toNat_natCast, IL_set, w64 (by omega) (by omega)]
    refine sum_l p q hp hq d (i + 1) k _ (by omega) (by rw [List.length_set]; exact hl) (fun j => ?_) (by omega)
    rw [cf_set _ _ _ _ (by omega)]
    by_cases hj : j = i
    · subst hj
      rw [if_pos rfl, if_pos (by omega), hc j, if_neg (by omega), add_zero]
    · rw [if_neg hj, hc j]
      by_cases h : j < i
      · rw [if_pos h, if_pos (by omega)]
      · rw [if_neg h, if_neg (by omega)]
theorem add_comm_eqv (p q : Poly) : Eqv (addP p q) (addP q p) := fun i => by rw [cf_add, cf_add, add_comm]
theorem sumK_f (p q : Poly) (hp : p.length ≤ 100000) (hq : q.length ≤ p.length) (k : Nat) (hk : q.length + p.length + 1 < k) : field_sumK.f k (IL p) (IL q) = some (IL (tr (addP p q))) := by
  unfold field_sumK.f
  rw [clone_f _ (by rw [IL_len]; exact hp), Option.bind_some, IL_len]
  exact sum_l p q hp hq q.length 0 k p (by omega) rfl (fun j => by rw [if_neg (by omega), add_zero]) (by omega)
theorem sum_f (p q : Poly) (hp : p.length ≤ 100000) (hq : q.length ≤ 100000) : field_sum.f (IL p) (IL q) = some (IL (tr (addP p q))) := by
  unfold field_sum.f
  rw [IL_len, IL_len]
  split
  · rw [sumK_f q p hq (by omega) _ (by omega), tr_canon (add_comm_eqv q p)]
  · exact sumK_f p q hp (by omega) _ (by omega)

/-! ### product -/
def addAtP (o : Poly) (n : Nat) (v : F) : Poly := o.set n (cf o n + v)
def mulRowP (i : Nat) (a : F) : Nat → Poly → Poly → Poly
  | _, [], o => o
  | j, b :: q, o => mulRowP i a (j + 1) q (addAtP o (i + j) (a * b))
def prodRowsP : Nat → Poly → Poly → Poly → Poly
  | _, [], _, o => o
  | i, a :: p, q, o => prodRowsP (i + 1) p q (mulRowP i a 0 q o)
theorem addAt_IL (o : Poly) (n : Nat) (v : F) : addAt (IL o) (n : Int) (ofF v) = IL (addAtP o n v) := by
  unfold addAt addAtP
  rw [rd_ILn, bx_ofF, Int.toNat_natCast, IL_set]
theorem mulRow_IL (i : Nat) (a : F) : ∀ (q o : Poly) (j : Nat), mulRow i (ofF a) j (IL q) (IL o) = IL (mulRowP i a j q o)
  | [], _, _ => rfl
  | b :: q, o, j => by
    rw [show IL (b :: q) = ofF b :: IL q from rfl, mulRow, mI_ofF, addAt_IL, mulRow_IL i a q, mulRowP]
theorem prodRows_IL : ∀ (p q o : Poly) (i : Nat), prodRows i (IL p) (IL q) (IL o) = IL (prodRowsP i p q o)
  | [], _, _, _ => rfl
  | a :: p, q, o, i => by
    rw [show IL (a :: p) = ofF a :: IL p from rfl, prodRows, mulRow_IL, prodRows_IL p q, prodRowsP]
theorem addAtP_len (o : Poly) (n : Nat) (v : F) : (addAtP o n v).length = o.length := by simp [addAtP]
theorem mulRowP_len (i : Nat) (a : F) : ∀ (q o : Poly) (j : Nat), (mulRowP i a j q o).length = o.length
  | [], _, _ => rfl
  | b :: q, o, j => by rw [mulRowP, mulRowP_len i a q, addAtP_len]
theorem prodRowsP_len : ∀ (p q o : Poly) (i : Nat), (prodRowsP i p q o).length = o.length
  | [], _, _, _ => rfl
  | a :: p, q, o, i => by rw [prodRowsP, prodRowsP_len p q, mulRowP_len]
theorem cf_addAtP (o : Poly) (n : Nat) (v : F) (i : Nat) (hn : n < o.length) : cf (addAtP o n v) i = if i = n then cf o i + v else cf o i := by
  unfold addAtP
  rw [cf_set _ _ _ _ hn]
  by_cases h : i = n
  · subst h; simp
  · rw [if_neg h, if_neg h]
theorem cf_mulRowP (i : Nat) (a : F) : ∀ (q o : Poly) (j n : Nat), i + j + q.length ≤ o.length → cf (mulRowP i a j q o) n = cf o n + if i + j ≤ n then a * cf q (n - (i + j)) else 0
  | [], o, j, n, _ => by
    rw [mulRowP, cf_nil, mul_zero]
    split <;> rw [add_zero]
  | b :: q, o, j, n, h => by
    rw [List.length_cons] at h
    rw [mulRowP, cf_mulRowP i a q _ (j + 1) n (by rw [addAtP_len]; omega), cf_addAtP _ _ _ _ (by omega)]
    rcases Nat.lt_trichotomy n (i + j) with h1 | h1 | h1
    · rw [if_neg (by omega), if_neg (by omega), if_neg (by omega)]
    · rw [if_pos h1, if_neg (by omega), if_pos (by omega), add_zero, h1, Nat.sub_self, cf_zero]
    · rw [if_neg (by omega), if_pos (by omega), if_pos (by omega), show n - (i + j) = n - (i + (j + 1)) + 1 by omega, cf_succ]
theorem cf_prodRowsP : ∀ (p q o : Poly) (i n : Nat), i + p.length + q.length ≤ o.length + 1 → cf (prodRowsP i p q o) n = cf o n + if i ≤ n then cf (mulP p q) (n - i) else 0
  | [], q, o, i, n, _ => by
    rw [prodRowsP, mulP, cf_nil]
    split <;> rw [add_zero]
  | a :: p, q, o, i, n, h => by
    rw [List.length_cons] at h
    rw [prodRowsP, cf_prodRowsP p q _ (i + 1) n (by rw [mulRowP_len]; omega), cf_mulRowP _ _ _ _ _ _ (by omega), add_assoc, Nat.add_zero]
    congr 1
    rcases Nat.lt_trichotomy n i with h1 | h1 | h1
    · rw [if_neg (by omega), if_neg (by omega), if_neg (by omega), add_zero]
    · subst h1
      rw [if_pos (by omega), if_neg (by omega), if_pos (by omega), Nat.sub_self, mulP, cf_add, cf_smul, cf_zero]
    · rw [if_pos (by omega), if_pos (by omega), if_pos (by omega), mulP, cf_add, cf_smul, show n - i = n - (i + 1) + 1 by omega, cf_succ]
theorem cf_rep (n i : Nat) : cf (List.replicate n (0 : F)) i = 0 := by
  simp only [cf, List.getD_eq_getElem?_getD, List.getElem?_replicate]
  split <;> rfl
theorem prod_eqv (p q : Poly) : Eqv (prodRowsP 0 p q (List.replicate (p.length + q.length - 1) 0)) (mulP p q) := fun n => by
  rcases Nat.eq_zero_or_pos (p.length + q.length) with h | h
  · obtain rfl : p = [] := List.eq_nil_of_length_eq_zero (by omega)
    rw [prodRowsP, cf_rep, mulP, cf_nil]
  · rw [cf_prodRowsP _ _ _ _ _ (by rw [List.length_replicate]; omega), cf_rep, zero_add, if_pos (by omega), Nat.sub_zero]
theorem tr_len_eq {p : Poly} (h : dg p = p.length) : tr p = p := by
  refine tr_id ?_
  rcases Nat.eq_zero_or_pos p.length with h0 | h0
  · exact .inl (List.eq_nil_of_length_eq_zero h0)
  · exact .inr (by rw [← h]; exact dg_top (by omega))
theorem dg_tr (p : Poly) : dg (tr p) = dg p := dg_eqv (tr_eqv p)
theorem product_f (p q : Poly) (hp : p.length ≤ 100000) (hq : q.length ≤ 100000) : field_product.f (IL p) (IL q) = some (IL (tr (mulP p q))) := by
  unfold field_product.f
  rw [trim_f p hp _ (by rw [IL_len]; omega), Option.bind_some, trim_f q hq _ (by rw [IL_len]; omega), Option.bind_some, IL_len, IL_len]
  by_cases h0 : (tr p).length = 0
  · rw [if_pos h0, tr_nil_of (mul_nil (.inl (dg_zero h0)))]
    rfl
  · rw [if_neg h0]
    by_cases h1 : (tr q).length = 0
    · rw [if_pos h1, tr_nil_of (mul_nil (.inr (dg_zero h1)))]
      rfl
    · have l0 := tr_len p
      have l1 := tr_len q
      rw [if_neg h1, if_pos (by simp only [IL_all, Bool.true_and, Bool.and_eq_true, decide_eq_true_eq]; omega)]
      unfold prodI
      rw [IL_len, IL_len, show List.replicate ((tr p).length + (tr q).length - 1) (0 : Int) = IL (List.replicate ((tr p).length + (tr q).length - 1) 0) by simp [IL, ofF_zero], prodRows_IL]
      congr 2
      have e1 := prod_eqv (tr p) (tr q)
      have e2 : Eqv (mulP (tr p) (tr q)) (mulP p q) := mul_eqv (tr_eqv p) (tr_eqv q)
      rw [← tr_canon (e1.trans e2)]
      refine (tr_len_eq ?_).symm
      rw [dg_eqv (e1.trans e2), dg_mul (by unfold dg; omega) (by unfold dg; omega), prodRowsP_len, List.length_replicate]
      rfl

/-! ### eval -/
theorem horn_IL (x : F) : ∀ p : Poly, hornL (ofF x) (IL p) = ofF (ev p x)
  | [] => rfl
  | a :: p => by
    rw [show IL (a :: p) = ofF a :: IL p from rfl, hornL, horn_IL x p, mI_ofF]
    unfold bx
    rw [bx_ofF, ev, mul_comm, add_comm]
theorem eval_f (p : Poly) (x : F) : field_eval.f (IL p) (ofF x) = some (ofF (ev p x)) := by
  unfold field_eval.f
  rw [if_pos (by rw [IL_all, el_ofF]; rfl), horn_IL]

/-! ### SameBytes -/
theorem same_l (l : List Int) (hl : l.length ≤ 100000) : ∀ (d i k : Nat), i + d = l.length → d < k → letterbagkit_SameBytes.l0 k l l (i : Int) = some true
  | 0, i, k, h, hk => by
    obtain ⟨k, rfl⟩ : ∃ m, k = m + 1 := ⟨k - 1, by omega⟩
    rw [letterbagkit_SameBytes.l0, if_neg (by omega)]
  | d + 1, i, k, h, hk => by
    obtain ⟨k, rfl⟩ : ∃ m, k = m + 1 := ⟨k - 1, by omega⟩
    rw [letterbagkit_SameBytes.l0, if_pos (by omega), if_pos (by omega), if_pos (by omega), if_pos rfl, w64 (by omega) (by omega)]
    exact same_l l hl d (i + 1) k (by omega) (by omega)
theorem same_f (l : List Int) (hl : l.length ≤ 100000) (k : Nat) (hk : l.length < k) : letterbagkit_SameBytes.f k l l = some true := by
  unfold letterbagkit_SameBytes.f
  rw [if_pos rfl]
  exact same_l l hl l.length 0 k (by omega) hk

/-! ### elements -/
theorem el_mod (x : Int) (h0 : 0 ≤ x) : elB (Int.tmod x 64) = true := by
  rw [Int.tmod_eq_emod_of_nonneg h0, elB_iff]
  omega
theorem elements_l (t : List Int) (ht : t.length ≤ 100000) (h0 : ∀ x ∈ t, 0 ≤ x) : ∀ (d i k : Nat) (o : List Int), i + d = t.length → o = (t.take i).map (fun x => Int.tmod x 64) → d < k → letterbaglaw18_elements.l0 k o t (t.length : Int) (i : Int) = some (t.map fun x => Int.tmod x 64)
  | 0, i, k, o, h, ho, hk => by
    obtain ⟨k, rfl⟩ : ∃ m, k = m + 1 := ⟨k - 1, by omega⟩
    rw [letterbaglaw18_elements.l0, if_neg (by omega), ho, List.take_of_length_le (by omega)]
  | d + 1, i, k, o, h, ho, hk => by
    obtain ⟨k, rfl⟩ : ∃ m, k = m + 1 := ⟨k - 1, by omega⟩
    have hol : o.length ≤ 100000 := by rw [ho, List.length_map, List.length_take]; omega
    rw [letterbaglaw18_elements.l0, if_pos (by omega), if_pos (by omega), if_pos (by omega), if_pos (by omega), w64 (by omega) (by omega)]
    refine elements_l t ht h0 d (i + 1) k _ (by omega) ?_ (by omega)
    have e : rd t (i : Int) = t[i] := by simp [rd, List.getD_eq_getElem?_getD, List.getElem?_eq_getElem (show i < t.length by omega)]
    rw [ho, e, List.take_add_one, List.getElem?_eq_getElem (show i < t.length by omega), List.map_append]
    rfl
theorem elements_f (l : List Int) (h0 : ∀ x ∈ l, 0 ≤ x) (m : Nat) (hm : m ≤ 1000) (k : Nat) (hk : m < k) : ∃ p : Poly, letterbaglaw18_elements.f k l (m : Int) = some (IL p) ∧ p.length ≤ m := by
  obtain ⟨n, hn, hnm, hnl⟩ : ∃ n : Nat, mn (l.length : Int) (m : Int) = (n : Int) ∧ n ≤ m ∧ n ≤ l.length := by
    by_cases h : (l.length : Int) ≤ (m : Int)
    · exact ⟨l.length, by unfold mn; split <;> omega, by omega, by omega⟩
    · exact ⟨m, by unfold mn; split <;> omega, by omega, by omega⟩
  unfold letterbaglaw18_elements.f
  rw [hn, if_pos (by omega), if_pos (by omega), Int.toNat_natCast]
  have hl : (l.take n).length = n := by rw [List.length_take]; omega
  have h0' : ∀ x ∈ l.take n, 0 ≤ x := fun x hx => h0 x (List.mem_of_mem_take hx)
  have he := elements_l (l.take n) (by omega) h0' n 0 k [] (by omega) rfl (by omega)
  obtain ⟨p, hp, hpl⟩ := IL_of (l := (l.take n).map fun x => Int.tmod x 64) (by
    rw [List.all_eq_true]
    intro x hx
    obtain ⟨y, hy, rfl⟩ := List.mem_map.1 hx
    exact el_mod y (h0' y hy))
  refine ⟨p, ?_, by rw [hpl, List.length_map]; omega⟩
  rw [← hp]
  exact he
end Go.Proofs.YtehgfpfmpkmdmaaDoor.Print
