-- Gf, Ga, Gp (what this claim uses of them)
import Derived.Test.YtehgfpfmpkmdmaaDoorYv22
import Derived.Deep.DeepMust
import Derived.Outline
/- The field of 64 elements on natural numbers below 64: sums are exclusive ors, products go by a table of the powers of 2. Plain facts, no program. -/
namespace Go.Proofs.YtehgfpfmpkmdmaaDoor.Gf
def pw : List Nat := [1, 2, 4, 8, 16, 32, 3, 6, 12, 24, 48, 35, 5, 10, 20, 40, 19, 38, 15, 30, 60, 59, 53, 41, 17, 34, 7, 14, 28, 56, 51, 37, 9, 18, 36, 11, 22, 44, 27, 54, 47, 29, 58, 55, 45, 25, 50, 39, 13, 26, 52, 43, 21, 42, 23, 46, 31, 62, 63, 61, 57, 49, 33]
def ex (n : Nat) : Nat := pw.getD (n % 63) 0
def lg (a : Nat) : Nat := pw.idxOf a
def ml (a b : Nat) : Nat := if a = 0 ∨ b = 0 then 0 else ex (lg a + lg b)
def iv (a : Nat) : Nat := ex (63 - lg a)
def dbl (a : Nat) : Nat := if a < 32 then 2 * a else (2 * a) ^^^ 67
theorem tab_ex : ∀ n, n < 63 → (pw.getD n 0 ≠ 0 ∧ pw.getD n 0 < 64 ∧ pw.idxOf (pw.getD n 0) = n) := by decide +kernel
theorem tab_lg : ∀ a, a < 64 → a ≠ 0 → (pw.idxOf a < 63 ∧ pw.getD (pw.idxOf a) 0 = a) := by decide +kernel
theorem ex_ne (n : Nat) : ex n ≠ 0 := (tab_ex _ (Nat.mod_lt _ (by decide))).1
theorem ex_lt (n : Nat) : ex n < 64 := (tab_ex _ (Nat.mod_lt _ (by decide))).2.1
theorem lg_ex (n : Nat) : lg (ex n) = n % 63 := (tab_ex _ (Nat.mod_lt _ (by decide))).2.2
theorem lg_lt {a : Nat} (h : a < 64) (h0 : a ≠ 0) : lg a < 63 := (tab_lg a h h0).1
theorem ex_lg {a : Nat} (h : a < 64) (h0 : a ≠ 0) : ex (lg a) = a := by
  have := tab_lg a h h0
  unfold ex lg
  rw [Nat.mod_eq_of_lt this.1]
  exact this.2
theorem ml_zero_left (b : Nat) : ml 0 b = 0 := by simp [ml]
theorem ml_zero_right (a : Nat) : ml a 0 = 0 := by simp [ml]
theorem ml_lt (a b : Nat) : ml a b < 64 := by
  unfold ml
  split
  · decide
  · exact ex_lt _
theorem ml_comm (a b : Nat) : ml a b = ml b a := by
  unfold ml
  rw [Nat.add_comm]
  simp only [Or.comm]
theorem ml_ne {a b : Nat} (ha : a ≠ 0) (hb : b ≠ 0) : ml a b ≠ 0 := by
  unfold ml
  rw [if_neg (by simp [ha, hb])]
  exact ex_ne _
theorem ml_eq_zero {a b : Nat} (h : ml a b = 0) : a = 0 ∨ b = 0 := by
  rcases Nat.eq_zero_or_pos a with h1 | h1
  · exact .inl h1
  · rcases Nat.eq_zero_or_pos b with h2 | h2
    · exact .inr h2
    · exact absurd h (ml_ne (by omega) (by omega))
theorem ml_pos {a b : Nat} (ha : a ≠ 0) (hb : b ≠ 0) : ml a b = ex (lg a + lg b) := by
  unfold ml
  rw [if_neg (by simp [ha, hb])]
theorem ml_assoc (a b c : Nat) : ml (ml a b) c = ml a (ml b c) := by
  by_cases ha : a = 0
  · subst ha; simp [ml_zero_left]
  by_cases hb : b = 0
  · subst hb; simp [ml_zero_left, ml_zero_right]
  by_cases hc : c = 0
  · subst hc; simp [ml_zero_right]
  rw [ml_pos (ml_ne ha hb) hc, ml_pos ha (ml_ne hb hc), ml_pos ha hb, ml_pos hb hc, lg_ex, lg_ex]
  unfold ex
  congr 1
  omega
theorem ml_one {a : Nat} (h : a < 64) : ml a 1 = a := by
  by_cases ha : a = 0
  · subst ha; decide
  · rw [ml_pos ha (by decide)]
    have : lg 1 = 0 := by decide
    rw [this, Nat.add_zero, ex_lg h ha]
theorem one_ml {a : Nat} (h : a < 64) : ml 1 a = a := by rw [ml_comm, ml_one h]
theorem iv_lt (a : Nat) : iv a < 64 := ex_lt _
theorem iv_ne (a : Nat) : iv a ≠ 0 := ex_ne _
theorem ml_iv {a : Nat} (h : a < 64) (h0 : a ≠ 0) : ml a (iv a) = 1 := by
  unfold iv
  rw [ml_pos h0 (ex_ne _), lg_ex]
  have := lg_lt h h0
  unfold ex
  rw [show (lg a + (63 - lg a) % 63) % 63 = 0 by omega]
  rfl
theorem iv_ml {a : Nat} (h : a < 64) (h0 : a ≠ 0) : ml (iv a) a = 1 := by rw [ml_comm, ml_iv h h0]
theorem xor_lt {a b : Nat} (ha : a < 64) (hb : b < 64) : a ^^^ b < 64 := Nat.xor_lt_two_pow (n := 6) ha hb
theorem dbl_is : ∀ a, a < 64 → ml 2 a = dbl a := by decide +kernel
theorem dbl_xor : ∀ a, a < 64 → ∀ b, b < 64 → dbl (a ^^^ b) = dbl a ^^^ dbl b := by decide +kernel
theorem two_xor {a b : Nat} (ha : a < 64) (hb : b < 64) : ml 2 (a ^^^ b) = ml 2 a ^^^ ml 2 b := by
  rw [dbl_is _ (xor_lt ha hb), dbl_is a ha, dbl_is b hb, dbl_xor a ha b hb]
theorem ex_succ (n : Nat) : ex (n + 1) = ml 2 (ex n) := by
  rw [ml_pos (by decide) (ex_ne n), lg_ex]
  have : lg 2 = 1 := by decide
  rw [this]
  unfold ex
  congr 1
  omega
theorem ex_distrib (n : Nat) {b c : Nat} (hb : b < 64) (hc : c < 64) : ml (ex n) (b ^^^ c) = ml (ex n) b ^^^ ml (ex n) c := by
  induction n with
  | zero =>
    have : ex 0 = 1 := by decide
    rw [this, one_ml hb, one_ml hc, one_ml (xor_lt hb hc)]
  | succ n ih => rw [ex_succ, ml_assoc, ml_assoc, ml_assoc, ih, two_xor (ml_lt _ _) (ml_lt _ _)]
theorem ml_xor {a b c : Nat} (ha : a < 64) (hb : b < 64) (hc : c < 64) : ml a (b ^^^ c) = ml a b ^^^ ml a c := by
  by_cases h0 : a = 0
  · subst h0; simp [ml_zero_left]
  · rw [← ex_lg ha h0]; exact ex_distrib _ hb hc
theorem xor_ml {a b c : Nat} (ha : a < 64) (hb : b < 64) (hc : c < 64) : ml (b ^^^ c) a = ml b a ^^^ ml c a := by
  rw [ml_comm, ml_xor ha hb hc, ml_comm a b, ml_comm a c]
end Go.Proofs.YtehgfpfmpkmdmaaDoor.Gf
/- The field of 64 elements as a type, and polynomials over it as lists of coefficients: sums, products, values, degrees, division with its uniqueness, roots. Plain Lean, no program. -/
namespace Go.Proofs.YtehgfpfmpkmdmaaDoor.Gf
/-- An element. -/
structure F where
  v : Nat
  h : v < 64
deriving DecidableEq
theorem F.ext {a b : F} (h : a.v = b.v) : a = b := by
  cases a; cases b; simp_all
instance : Add F := ⟨fun a b => ⟨a.v ^^^ b.v, xor_lt a.h b.h⟩⟩
instance : Mul F := ⟨fun a b => ⟨ml a.v b.v, ml_lt _ _⟩⟩
instance : OfNat F 0 := ⟨⟨0, by decide⟩⟩
instance : OfNat F 1 := ⟨⟨1, by decide⟩⟩
instance : Inhabited F := ⟨0⟩
def inv (a : F) : F := ⟨iv a.v, iv_lt _⟩
theorem add_v (a b : F) : (a + b).v = a.v ^^^ b.v := rfl
theorem mul_v (a b : F) : (a * b).v = ml a.v b.v := rfl
theorem ne_v {a : F} (h : a ≠ 0) : a.v ≠ 0 := fun e => h (F.ext e)
theorem add_comm (a b : F) : a + b = b + a := F.ext (Nat.xor_comm _ _)
theorem add_assoc (a b c : F) : a + b + c = a + (b + c) := F.ext (Nat.xor_assoc _ _ _)
theorem add_zero (a : F) : a + 0 = a := F.ext (Nat.xor_zero _)
theorem zero_add (a : F) : 0 + a = a := F.ext (Nat.zero_xor _)
theorem add_self (a : F) : a + a = 0 := F.ext (Nat.xor_self a.v)
theorem mul_comm (a b : F) : a * b = b * a := F.ext (ml_comm _ _)
theorem mul_assoc (a b c : F) : a * b * c = a * (b * c) := F.ext (ml_assoc _ _ _)
theorem mul_one (a : F) : a * 1 = a := F.ext (ml_one a.h)
theorem one_mul (a : F) : 1 * a = a := F.ext (one_ml a.h)
theorem mul_zero (a : F) : a * 0 = 0 := F.ext (ml_zero_right a.v)
theorem zero_mul (a : F) : 0 * a = 0 := F.ext (ml_zero_left a.v)
theorem mul_add (a b c : F) : a * (b + c) = a * b + a * c := F.ext (ml_xor a.h b.h c.h)
theorem add_mul (a b c : F) : (b + c) * a = b * a + c * a := F.ext (xor_ml a.h b.h c.h)
theorem mul_inv {a : F} (h : a ≠ 0) : a * inv a = 1 := F.ext (ml_iv a.h (ne_v h))
theorem inv_mul {a : F} (h : a ≠ 0) : inv a * a = 1 := F.ext (iv_ml a.h (ne_v h))
theorem mul_eq_zero {a b : F} (h : a * b = 0) : a = 0 ∨ b = 0 := by
  rcases ml_eq_zero (congrArg F.v h) with h | h
  · exact .inl (F.ext h)
  · exact .inr (F.ext h)
instance : Std.Associative (α := F) (· + ·) := ⟨add_assoc⟩
instance : Std.Commutative (α := F) (· + ·) := ⟨add_comm⟩
instance : Std.Associative (α := F) (· * ·) := ⟨mul_assoc⟩
instance : Std.Commutative (α := F) (· * ·) := ⟨mul_comm⟩
theorem eq_of_add {a b : F} (h : a + b = 0) : a = b := by
  have := congrArg (a + ·) h
  simp only [← add_assoc, add_self, zero_add, add_zero] at this
  exact this.symm
theorem mul_cancel {a b c : F} (ha : a ≠ 0) (h : a * b = a * c) : b = c := by
  have := congrArg (inv a * ·) h
  simpa [← mul_assoc, inv_mul ha, one_mul] using this
abbrev Poly := List F
/-- The coefficient at i, 0 where there is none. -/
def cf (p : Poly) (i : Nat) : F := p.getD i 0
theorem cf_nil (i : Nat) : cf [] i = 0 := rfl
theorem cf_zero (a : F) (p : Poly) : cf (a :: p) 0 = a := rfl
theorem cf_succ (a : F) (p : Poly) (i : Nat) : cf (a :: p) (i + 1) = cf p i := rfl
theorem cf_ge {p : Poly} {i : Nat} (h : p.length ≤ i) : cf p i = 0 := by
  simp [cf, List.getD_eq_getElem?_getD, List.getElem?_eq_none h]
theorem cf_get {p : Poly} {i : Nat} (h : i < p.length) : cf p i = p[i] := by
  simp [cf, List.getD_eq_getElem?_getD, List.getElem?_eq_getElem h]
/-- The same polynomial. -/
def Eqv (p q : Poly) : Prop := ∀ i, cf p i = cf q i
theorem Eqv.symm {p q : Poly} (h : Eqv p q) : Eqv q p := fun i => (h i).symm
theorem Eqv.trans {p q r : Poly} (h : Eqv p q) (k : Eqv q r) : Eqv p r := fun i => (h i).trans (k i)
/-- Its value. -/
def ev : Poly → F → F
  | [], _ => 0
  | a :: p, x => a + x * ev p x
theorem ev_zero {p : Poly} (h : Eqv p []) (x : F) : ev p x = 0 := by
  induction p with
  | nil => rfl
  | cons a p ih => rw [ev, ih (fun i => h (i + 1)), mul_zero, add_zero]; exact h 0
theorem ev_eqv {p q : Poly} (h : Eqv p q) (x : F) : ev p x = ev q x := by
  induction p generalizing q with
  | nil => exact (ev_zero h.symm x).symm
  | cons a p ih =>
    cases q with
    | nil => exact ev_zero h x
    | cons b q => rw [ev, ev, show a = b from h 0, ih (fun i => h (i + 1))]
/-- Without the zeros at its end. -/
def tr : Poly → Poly
  | [] => []
  | a :: p => match tr p with
    | [] => if a = 0 then [] else [a]
    | b :: t => a :: b :: t
theorem tr_eqv : ∀ p : Poly, Eqv (tr p) p
  | [], _ => rfl
  | a :: p, i => by
    have ih := tr_eqv p
    rw [tr]
    cases h : tr p with
    | nil =>
      rw [h] at ih
      simp only
      split
      · rename_i h0
        cases i with
        | zero => exact h0.symm
        | succ i => exact ih i
      · cases i with
        | zero => rfl
        | succ i => exact ih i
    | cons b t =>
      rw [h] at ih
      simp only
      cases i with
      | zero => rfl
      | succ i => exact ih i
theorem tr_nil_of {p : Poly} (h : Eqv p []) : tr p = [] := by
  induction p with
  | nil => rfl
  | cons a p ih => rw [tr, ih (fun i => h (i + 1))]; simp only; exact if_pos (h 0)
theorem tr_canon {p q : Poly} (h : Eqv p q) : tr p = tr q := by
  induction p generalizing q with
  | nil => exact (tr_nil_of h.symm).symm
  | cons a p ih =>
    cases q with
    | nil => exact tr_nil_of h
    | cons b q => rw [tr, tr, show a = b from h 0, ih (fun i => h (i + 1))]
theorem tr_tr (p : Poly) : tr (tr p) = tr p := tr_canon (tr_eqv p)
/-- One more than the degree. -/
def dg (p : Poly) : Nat := (tr p).length
theorem dg_eqv {p q : Poly} (h : Eqv p q) : dg p = dg q := by rw [dg, tr_canon h, dg]
theorem dg_ge {p : Poly} {i : Nat} (h : dg p ≤ i) : cf p i = 0 := by rw [← tr_eqv p i]; exact cf_ge h
theorem tr_len : ∀ p : Poly, (tr p).length ≤ p.length
  | [] => Nat.le_refl _
  | a :: p => by
    have ih := tr_len p
    rw [tr]
    cases h : tr p with
    | nil => simp only; split <;> simp
    | cons b t => rw [h] at ih; simpa using ih
theorem dg_len (p : Poly) : dg p ≤ p.length := tr_len p
theorem tr_top : ∀ p : Poly, tr p ≠ [] → cf p ((tr p).length - 1) ≠ 0
  | [], h => absurd rfl h
  | a :: p, h => by
    have ih := tr_top p
    rw [tr] at h ⊢
    cases hp : tr p with
    | nil =>
      rw [hp] at h
      simp only at h ⊢
      split
      · rename_i h0; simp [h0] at h
      · rename_i h0; exact h0
    | cons b t =>
      rw [hp] at ih
      have := ih (by simp)
      exact this
theorem dg_top {p : Poly} (h : 0 < dg p) : cf p (dg p - 1) ≠ 0 := tr_top p (fun e => by rw [dg, e] at h; exact absurd h (by simp))
theorem dg_le {p : Poly} {n : Nat} (h : ∀ i, n ≤ i → cf p i = 0) : dg p ≤ n := by
  rcases Nat.lt_or_ge n (dg p) with h1 | h1
  · exact absurd (h (dg p - 1) (by omega)) (dg_top (by omega))
  · exact h1
theorem dg_eq {p : Poly} {n : Nat} (h : ∀ i, n < i → cf p i = 0) (h0 : cf p n ≠ 0) : dg p = n + 1 := by
  have h1 : dg p ≤ n + 1 := dg_le (fun i hi => h i (by omega))
  rcases Nat.lt_or_ge n (dg p) with h2 | h2
  · omega
  · exact absurd (dg_ge h2) h0
theorem dg_zero {p : Poly} (h : dg p = 0) : Eqv p [] := fun _ => dg_ge (by omega)
theorem tr_id {p : Poly} (h : p = [] ∨ cf p (p.length - 1) ≠ 0) : tr p = p := by
  induction p with
  | nil => rfl
  | cons a p ih =>
    rcases h with h | h
    · cases h
    · cases p with
      | nil =>
        rw [tr]
        have : a ≠ 0 := h
        simp [tr, this]
      | cons b t =>
        have h2 := ih (.inr (by simpa [cf] using h))
        rw [tr, h2]
/-- Two lists without zeros at their ends that are the same polynomial are the same list. -/
theorem tr_eq_of {p q : Poly} (h : Eqv p q) (hp : p = [] ∨ cf p (p.length - 1) ≠ 0) : p = tr q := by rw [← tr_canon h, tr_id hp]
def addP : Poly → Poly → Poly
  | [], q => q
  | p, [] => p
  | a :: p, b :: q => (a + b) :: addP p q
theorem cf_add : ∀ (p q : Poly) (i : Nat), cf (addP p q) i = cf p i + cf q i
  | [], q, i => by rw [addP, cf_nil, zero_add]
  | a :: p, [], i => by rw [addP, cf_nil, add_zero]; intro h; cases h
  | a :: p, b :: q, i => by
    rw [addP]
    cases i with
    | zero => rfl
    | succ i => exact cf_add p q i
theorem ev_add : ∀ (p q : Poly) (x : F), ev (addP p q) x = ev p x + ev q x
  | [], q, x => by rw [addP, ev, zero_add]
  | a :: p, [], x => by rw [addP, ev, ev, add_zero]; intro h; cases h
  | a :: p, b :: q, x => by rw [addP, ev, ev_add p q x, ev, ev, mul_add]; ac_rfl
def smul (c : F) (p : Poly) : Poly := p.map (c * ·)
theorem cf_smul (c : F) (p : Poly) (i : Nat) : cf (smul c p) i = c * cf p i := by
  unfold smul cf
  rw [List.getD_eq_getElem?_getD, List.getD_eq_getElem?_getD, List.getElem?_map]
  cases p[i]? with
  | none => exact (mul_zero c).symm
  | some a => rfl
theorem ev_smul (c : F) (p : Poly) (x : F) : ev (smul c p) x = c * ev p x := by
  induction p with
  | nil => exact (mul_zero c).symm
  | cons a p ih => simp only [smul, List.map_cons, ev] at ih ⊢; rw [ih, mul_add]; ac_rfl
def mulP : Poly → Poly → Poly
  | [], _ => []
  | a :: p, q => addP (smul a q) (0 :: mulP p q)
theorem ev_mul (p q : Poly) (x : F) : ev (mulP p q) x = ev p x * ev q x := by
  induction p with
  | nil => exact (zero_mul _).symm
  | cons a p ih => rw [mulP, ev_add, ev_smul, ev, ev, ih, zero_add, add_mul]; ac_rfl
/-- The sum of f 0 .. f (n - 1). -/
def sn (f : Nat → F) : Nat → F
  | 0 => 0
  | n + 1 => sn f n + f n
theorem sn_zero {f : Nat → F} {n : Nat} (h : ∀ k, k < n → f k = 0) : sn f n = 0 := by
  induction n with
  | zero => rfl
  | succ n ih => rw [sn, ih (fun k hk => h k (by omega)), h n (by omega), add_zero]
theorem sn_congr {f g : Nat → F} {n : Nat} (h : ∀ k, k < n → f k = g k) : sn f n = sn g n := by
  induction n with
  | zero => rfl
  | succ n ih => rw [sn, sn, ih (fun k hk => h k (by omega)), h n (by omega)]
theorem sn_first (f : Nat → F) (n : Nat) : sn f (n + 1) = f 0 + sn (fun k => f (k + 1)) n := by
  induction n with
  | zero => simp [sn, zero_add, add_zero]
  | succ n ih => rw [sn, ih, sn, add_assoc]
theorem sn_one {f : Nat → F} {n j : Nat} (hj : j < n) (h : ∀ k, k < n → k ≠ j → f k = 0) : sn f n = f j := by
  induction n with
  | zero => omega
  | succ n ih =>
    rw [sn]
    by_cases e : j = n
    · subst e
      rw [sn_zero (fun k hk => h k (by omega) (by omega)), zero_add]
    · rw [ih (by omega) (fun k hk => h k (by omega)), h n (by omega) (by omega), add_zero]
theorem cf_mul (p q : Poly) (n : Nat) : cf (mulP p q) n = sn (fun k => cf p k * cf q (n - k)) (n + 1) := by
  induction p generalizing n with
  | nil => exact (sn_zero (fun k _ => by rw [cf_nil, zero_mul])).symm
  | cons a p ih =>
    rw [mulP, cf_add, cf_smul]
    rw [sn_first]
    congr 1
    cases n with
    | zero => rfl
    | succ n =>
      rw [cf_succ, ih]
      refine sn_congr (fun k hk => ?_)
      rw [cf_succ, Nat.add_sub_add_right]
theorem mul_top {p q : Poly} {m n : Nat} (hp : ∀ i, m < i → cf p i = 0) (hq : ∀ i, n < i → cf q i = 0) : cf (mulP p q) (m + n) = cf p m * cf q n := by
  rw [cf_mul, sn_one (j := m) (by omega)]
  · rw [show m + n - m = n by omega]
  · intro k hk hne
    rcases Nat.lt_or_ge m k with h | h
    · rw [hp k h, zero_mul]
    · rw [hq (m + n - k) (by omega), mul_zero]
theorem mul_above {p q : Poly} {m n i : Nat} (hp : ∀ i, m < i → cf p i = 0) (hq : ∀ i, n < i → cf q i = 0) (hi : m + n < i) : cf (mulP p q) i = 0 := by
  rw [cf_mul]
  refine sn_zero (fun k hk => ?_)
  rcases Nat.lt_or_ge m k with h | h
  · rw [hp k h, zero_mul]
  · rw [hq (i - k) (by omega), mul_zero]
theorem dg_mul {p q : Poly} (hp : 0 < dg p) (hq : 0 < dg q) : dg (mulP p q) = dg p + dg q - 1 := by
  have h1 : ∀ i, dg p - 1 < i → cf p i = 0 := fun i hi => dg_ge (by omega)
  have h2 : ∀ i, dg q - 1 < i → cf q i = 0 := fun i hi => dg_ge (by omega)
  have := dg_eq (p := mulP p q) (n := (dg p - 1) + (dg q - 1)) (fun i hi => mul_above h1 h2 hi) (by
    rw [mul_top h1 h2]
    intro h
    rcases mul_eq_zero h with h | h
    · exact dg_top hp h
    · exact dg_top hq h)
  omega
theorem mul_nil {p q : Poly} (h : Eqv p [] ∨ Eqv q []) : Eqv (mulP p q) [] := fun i => by
  rw [cf_mul, cf_nil]
  refine sn_zero (fun k _ => ?_)
  rcases h with h | h
  · rw [h k, cf_nil, zero_mul]
  · rw [h (i - k), cf_nil, mul_zero]
theorem mul_eqv {p p' q q' : Poly} (h : Eqv p p') (k : Eqv q q') : Eqv (mulP p q) (mulP p' q') := fun i => by
  rw [cf_mul, cf_mul]
  exact sn_congr fun j _ => by rw [h j, k (i - j)]
theorem dg_add_le {p q : Poly} {n : Nat} (hp : dg p ≤ n) (hq : dg q ≤ n) : dg (addP p q) ≤ n :=
  dg_le fun i hi => by rw [cf_add, dg_ge (by omega), dg_ge (by omega), add_zero]
/-- What is left of a polynomial behind division by z - r, from the end. -/
def sd (r : F) : Poly → Poly × F
  | [] => ([], 0)
  | a :: p => ((sd r p).2 :: (sd r p).1, a + r * (sd r p).2)
theorem sd_rest (r : F) (p : Poly) : (sd r p).2 = ev p r := by
  induction p with
  | nil => rfl
  | cons a p ih => rw [sd, ev, ih]
theorem sd_ev (r x : F) (p : Poly) : ev p x = (x + r) * ev (sd r p).1 x + (sd r p).2 := by
  induction p with
  | nil => simp only [sd, ev, mul_zero, add_zero]
  | cons a p ih =>
    simp only [sd, ev]
    rw [ih]
    generalize ev (sd r p).1 x = d
    generalize (sd r p).2 = c
    simp only [mul_add, add_mul]
    calc a + (x * (x * d) + x * (r * d) + x * c) = a + (x * (x * d) + x * (r * d) + x * c) + 0 := (add_zero _).symm
      _ = a + (x * (x * d) + x * (r * d) + x * c) + (r * c + r * c) := by rw [add_self]
      _ = x * c + r * c + (x * (x * d) + r * (x * d)) + (a + r * c) := by
        rw [show x * (r * d) = r * (x * d) by ac_rfl]; ac_rfl
theorem sd_cf (r : F) (p : Poly) : Eqv p (addP (mulP [r, 1] (sd r p).1) [(sd r p).2]) := by
  have hm : ∀ d : Poly, Eqv (mulP [r, 1] d) (addP (smul r d) (0 :: d)) := fun d i => by
    rw [mulP, cf_add, cf_add]
    congr 1
    cases i with
    | zero => rfl
    | succ i =>
      rw [cf_succ, cf_succ, mulP, cf_add, cf_smul, one_mul]
      cases i with
      | zero => exact add_zero _
      | succ i => exact add_zero _
  induction p with
  | nil =>
    intro i
    rw [cf_add, hm]
    rw [cf_add, cf_smul]
    simp only [sd, cf_nil, mul_zero]
    rcases i with _ | _ | i
    · decide
    · decide
    · show (0 : F) = 0 + 0 + 0
      decide
  | cons a p ih =>
    intro i
    rw [cf_add, hm, cf_add, cf_smul]
    simp only [sd]
    cases i with
    | zero =>
      simp only [cf_zero]
      rw [add_zero]
      calc a = a + 0 := (add_zero a).symm
        _ = a + (r * (sd r p).2 + r * (sd r p).2) := by rw [add_self]
        _ = r * (sd r p).2 + (a + r * (sd r p).2) := by ac_rfl
    | succ i =>
      rw [cf_succ, cf_succ, cf_succ, cf_succ, cf_nil, add_zero, ih i, cf_add, hm, cf_add, cf_smul]
      cases i with
      | zero => rw [cf_zero, cf_zero, cf_zero, add_zero]
      | succ i => rw [cf_succ, cf_succ, cf_succ, cf_nil, add_zero]
theorem sd_dg (r : F) {p : Poly} {n : Nat} (h : dg p ≤ n + 1) : dg (sd r p).1 ≤ n := by
  rcases Nat.eq_zero_or_pos (dg (sd r p).1) with h0 | h0
  · omega
  · have hq : dg [r, 1] = 2 := dg_eq (n := 1) (fun i hi => cf_ge (by simp; omega)) (show (1 : F) ≠ 0 by decide)
    have h1 := dg_mul (p := [r, 1]) (q := (sd r p).1) (by omega) h0
    have h2 := dg_eqv (sd_cf r p)
    have h3 : dg (addP (mulP [r, 1] (sd r p).1) [(sd r p).2]) = dg (sd r p).1 + 1 := by
      refine dg_eq (n := dg (sd r p).1) (fun i hi => ?_) ?_
      · rw [cf_add, dg_ge (by omega), cf_ge (by simp; omega), add_zero]
      · rw [cf_add, cf_ge (p := [(sd r p).2]) (by simp; omega), add_zero]
        have := dg_top (p := mulP [r, 1] (sd r p).1) (by omega)
        rwa [show dg (mulP [r, 1] (sd r p).1) - 1 = dg (sd r p).1 by omega] at this
    omega
/-- A polynomial with as many roots as it may have coefficients is 0. -/
theorem roots_many : ∀ (n : Nat) (p : Poly) (l : List F), dg p ≤ n → l.Nodup → (∀ x ∈ l, ev p x = 0) → n ≤ l.length → Eqv p []
  | 0, p, _, hd, _, _, _ => dg_zero (by omega)
  | n + 1, p, [], _, _, _, hl => by simp at hl
  | n + 1, p, r :: l, hd, hn, hr, hl => by
    have h0 : (sd r p).2 = 0 := by rw [sd_rest]; exact hr r (by simp)
    have hz := roots_many n (sd r p).1 l (sd_dg r hd) (List.nodup_cons.1 hn).2 (fun x hx => by
      have h1 := hr x (by simp [hx])
      rw [sd_ev r x p, h0, add_zero] at h1
      rcases mul_eq_zero h1 with h1 | h1
      · have := eq_of_add h1
        subst this
        exact absurd hx (List.nodup_cons.1 hn).1
      · exact h1) (by simpa using hl)
    intro i
    rw [sd_cf r p i, cf_add, h0, mul_nil (.inr hz) i, cf_nil, zero_add]
    rcases i with _ | i
    · rfl
    · rfl
/-- Two polynomials of n coefficients at most that agree at n places are the same. -/
theorem agree {p q : Poly} {n : Nat} (hp : dg p ≤ n) (hq : dg q ≤ n) (l : List F) (hl : l.Nodup) (hn : n ≤ l.length) (h : ∀ x ∈ l, ev p x = ev q x) : Eqv p q := fun i => by
  have := roots_many n (addP p q) l (dg_add_le hp hq) hl (fun x hx => by rw [ev_add, h x hx, add_self]) hn i
  rw [cf_add] at this
  exact eq_of_add this
end Go.Proofs.YtehgfpfmpkmdmaaDoor.Gf

namespace Go.Proofs.YtehgfpfmpkmdmaaDoor.Print
open Go.RowKit Go.Proofs.YtehgfpfmpkmdmaaDoorW.PrintWords Go.Proofs.YtehgfpfmpkmdmaaDoorW.PrintLast Go.Proofs.YtehgfpfmpkmdmaaDoorW.PrintMore
open Go.Proofs.YtehgfpfmpkmdmaaDoor.Gf
def pwI : List Int := [1, 2, 4, 8, 16, 32, 3, 6, 12, 24, 48, 35, 5, 10, 20, 40, 19, 38, 15, 30, 60, 59, 53, 41, 17, 34, 7, 14, 28, 56, 51, 37, 9, 18, 36, 11, 22, 44, 27, 54, 47, 29, 58, 55, 45, 25, 50, 39, 13, 26, 52, 43, 21, 42, 23, 46, 31, 62, 63, 61, 57, 49, 33]
/-- Is this an element other than 0? -/
def unitB (a : Int) : Bool := decide (0 < a) && decide (a < 64)
theorem unitB_iff {a : Int} : unitB a = true ↔ 0 < a ∧ a < 64 := by simp [unitB]
def field_log.f (a0 : Int) : Option Int := if unitB a0 = true then some (lg a0.toNat : Int) else none
def field_mul.f (a0 a1 : Int) : Option Int := if a0 = 0 then some 0 else if a1 = 0 then some 0 else if (unitB a0 && unitB a1) = true then some (ml a0.toNat a1.toNat : Int) else none
def field_inv.f (a0 : Int) : Option Int := if unitB a0 = true then some (iv a0.toNat : Int) else none
def field_Pow.f (a0 a1 : Int) : Option (Int × Int) :=
  if a0 ≥ 64 then some (0, 2) else if a1 = 0 then some (1, 0) else if a0 = 0 then (if a1 < 0 then some (0, 6) else some (0, 0)) else
  if unitB a0 = true ∧ -9223372036854775808 ≤ a1 ∧ a1 ≤ 9223372036854775807 then some (ex (lg a0.toNat * (a1 % 63).toNat) , 0) else none
theorem index_all : (List.range 63).all (fun i => slices_Index_uint8_uint8.f 64 pwI ((ex i : Nat) : Int) == some (i : Int)) = true := by decide +kernel
theorem index_unit {a : Int} (h : unitB a = true) : slices_Index_uint8_uint8.f 64 pwI a = some (lg a.toNat : Int) := by
  obtain ⟨h0, h1⟩ := unitB_iff.1 h
  have h2 : a.toNat ≠ 0 := by omega
  have h3 := lg_lt (a := a.toNat) (by omega) h2
  have h4 := List.all_eq_true.1 index_all (lg a.toNat) (by simpa using h3)
  rw [ex_lg (by omega) h2] at h4
  rw [show ((a.toNat : Nat) : Int) = a by omega] at h4
  simpa using h4
theorem pw_rd (n : Nat) : rd pwI ((n % 63 : Nat) : Int) = (ex n : Int) := by
  have h : ∀ i : Nat, i < 63 → rd pwI (i : Int) = ((pw.getD i 0 : Nat) : Int) := by decide +kernel
  have := h (n % 63) (Nat.mod_lt _ (by decide))
  rw [this]
  rfl
theorem tmod_nat (n : Nat) : Int.tmod (n : Int) 63 = ((n % 63 : Nat) : Int) := by rw [Int.tmod_eq_emod_of_nonneg (by omega)]; omega
set_option maxHeartbeats 1000000 in
theorem field_log.calls (a0 : Int) (r : Int) (w : World) (hT : Kd.C (Kd.int .u8) w (some ⟨0, 0, none⟩) 63 pwI) (h : field_log.f a0 = some r) :
    Calls Tryd.prog 52 #[.int .u8 a0] w fun e w' => e = .returned (.int .i64 r) ∧ Drawn0 w w' := by
  have HT := Aside0.mk hT
  clear hT
  unfold field_log.f at h
  split at h
  · rename_i hu
    injection h with h
    have HI := Aside0.mk (h ▸ index_unit hu)
    clear h hu
    go_enter Tryd.func52, Tryd.ntmps52
    go_wp2_with (go_at_call 61; refine (slices_Index_uint8_uint8.calls 64 (some ⟨0, 0, none⟩) 63 pwI a0 r w HT.out (by decide) HI.out).mono ?_; rintro e w' ⟨rfl, hd⟩; obtain ⟨nd, rfl⟩ := hd)
    go_ret
    exact ⟨rfl, ⟨⟨_, rfl⟩⟩⟩
  · cases h
theorem tab_cell {w : World} (hT : Kd.C (Kd.int .u8) w (some ⟨0, 0, none⟩) 63 pwI) (n : Nat) : w.cell? ⟨0, n % 63, none⟩ = some (.int .u8 (ex n : Int)) := by
  obtain ⟨ad, e, hc⟩ := Kd.at_int hT ((n % 63 : Nat) : Int) (by omega) (by omega)
  injection e with e
  subst e
  rw [add_plain, pw_rd, Int.toNat_natCast] at hc
  exact hc
set_option maxHeartbeats 1000000 in
theorem field_mul.calls (a0 : Int) (a1 : Int) (r : Int) (w : World) (hT : Kd.C (Kd.int .u8) w (some ⟨0, 0, none⟩) 63 pwI) (h : field_mul.f a0 a1 = some r) :
    Calls Tryd.prog 53 #[.int .u8 a0, .int .u8 a1] w fun e w' => e = .returned (.int .u8 r) ∧ Drawn0 w w' := by
  have HT := Aside0.mk hT
  clear hT
  unfold field_mul.f at h
  by_cases h0 : a0 = 0
  · subst h0
    rw [if_pos rfl] at h
    injection h with h
    subst h
    go_enter Tryd.func53, Tryd.ntmps53
    go_wp2
    go_ret
    exact ⟨rfl, Drawn0.refl _⟩
  · by_cases h1 : a1 = 0
    · subst h1
      rw [if_neg h0, if_pos rfl] at h
      injection h with h
      subst h
      go_enter Tryd.func53, Tryd.ntmps53
      go_wp2
      go_ret
      exact ⟨rfl, Drawn0.refl _⟩
    · rw [if_neg h0, if_neg h1] at h
      split at h
      · rename_i hu
        injection h with h
        simp only [Bool.and_eq_true] at hu
        obtain ⟨hu0, hu1⟩ := hu
        have hx := unitB_iff.1 hu0
        have hy := unitB_iff.1 hu1
        have b0 := lg_lt (a := a0.toNat) (by omega) (by omega)
        have b1 := lg_lt (a := a1.toNat) (by omega) (by omega)
        have hm := ml_pos (a := a0.toNat) (b := a1.toNat) (by omega) (by omega)
        have l0 : field_log.f a0 = some (lg a0.toNat : Int) := by unfold field_log.f; rw [if_pos hu0]
        have l1 : field_log.f a1 = some (lg a1.toNat : Int) := by unfold field_log.f; rw [if_pos hu1]
        rw [hm] at h
        have e0 : (a0 == 0) = false := by simpa using h0
        have e1 : (a1 == 0) = false := by simpa using h1
        generalize lg a0.toNat = p at *
        generalize lg a1.toNat = q at *
        have HL0 := Aside0.mk l0
        have HL1 := Aside0.mk l1
        have hcell := tab_cell HT.out (p + q)
        rw [h] at hcell
        clear hx hy hm l0 l1 hu0 hu1 h h0 h1
        go_enter Tryd.func53, Tryd.ntmps53
        go_wp2_with (first
          | (go_at_call 52; refine (field_log.calls a0 _ w HT.out HL0.out).mono ?_; rintro e w' ⟨rfl, hd⟩; obtain ⟨nd, rfl⟩ := hd)
          | (go_at_call 52; refine (field_log.calls a1 _ _ (Kd.C_drewN HT.out nd) HL1.out).mono ?_; rintro e w' ⟨rfl, hd⟩; obtain ⟨nd2, rfl⟩ := hd))
        go_ret
        exact ⟨rfl, ⟨⟨_, rfl⟩⟩⟩
      · cases h
set_option maxHeartbeats 1000000 in
theorem field_inv.calls (a0 : Int) (r : Int) (w : World) (hT : Kd.C (Kd.int .u8) w (some ⟨0, 0, none⟩) 63 pwI) (h : field_inv.f a0 = some r) :
    Calls Tryd.prog 54 #[.int .u8 a0] w fun e w' => e = .returned (.int .u8 r) ∧ Drawn0 w w' := by
  have HT := Aside0.mk hT
  clear hT
  unfold field_inv.f at h
  split at h
  · rename_i hu
    injection h with h
    have hx := unitB_iff.1 hu
    have b0 := lg_lt (a := a0.toNat) (by omega) (by omega)
    have l0 : field_log.f a0 = some (lg a0.toNat : Int) := by unfold field_log.f; rw [if_pos hu]
    unfold iv at h
    generalize lg a0.toNat = p at *
    have HL0 := Aside0.mk l0
    have hcell := tab_cell HT.out (63 - p)
    rw [h] at hcell
    have hz : (63 - p) % 63 = (-(p : Int) % 63).toNat := by omega
    rw [hz] at hcell
    clear hz
    clear hx l0 hu h
    go_enter Tryd.func54, Tryd.ntmps54
    go_wp2_with (go_at_call 52; refine (field_log.calls a0 _ w HT.out HL0.out).mono ?_; rintro e w' ⟨rfl, hd⟩; obtain ⟨nd, rfl⟩ := hd)
    go_ret
    exact ⟨rfl, ⟨⟨_, rfl⟩⟩⟩
  · cases h
set_option maxHeartbeats 2000000 in
theorem field_Pow.calls (a0 : Int) (a1 : Int) (r1 : Int) (r2 : Int) (w : World) (hT : Kd.C (Kd.int .u8) w (some ⟨0, 0, none⟩) 63 pwI) (h : field_Pow.f a0 a1 = some (r1, r2)) :
    Calls Tryd.prog 28 #[.int .u8 a0, .int .i64 a1] w fun e w' => e = .returned (.tuple #[.int .u8 r1, .int .i64 r2]) ∧ Drawn0 w w' := by
  have HT := Aside0.mk hT
  clear hT
  unfold field_Pow.f at h
  by_cases h0 : a0 ≥ 64
  · rw [if_pos h0] at h
    injection h with h
    injection h with e1 e2
    subst e1 e2
    go_enter Tryd.func28, Tryd.ntmps28
    go_wp2
    go_ret2
    exact ⟨rfl, Drawn0.refl _⟩
  rw [if_neg h0] at h
  by_cases h1 : a1 = 0
  · subst h1
    rw [if_pos rfl] at h
    injection h with h
    injection h with e1 e2
    subst e1 e2
    go_enter Tryd.func28, Tryd.ntmps28
    go_wp2
    go_ret2
    exact ⟨rfl, Drawn0.refl _⟩
  rw [if_neg h1] at h
  have hb1 : (a1 == 0) = false := by simpa using h1
  by_cases h2 : a0 = 0
  · subst h2
    rw [if_pos rfl] at h
    by_cases h3 : a1 < 0
    · rw [if_pos h3] at h
      injection h with h
      injection h with e1 e2
      subst e1 e2
      clear h1
      go_enter Tryd.func28, Tryd.ntmps28
      go_wp2
      go_ret2
      exact ⟨rfl, Drawn0.refl _⟩
    · rw [if_neg h3] at h
      injection h with h
      injection h with e1 e2
      subst e1 e2
      clear h1
      go_enter Tryd.func28, Tryd.ntmps28
      go_wp2
      go_ret2
      exact ⟨rfl, Drawn0.refl _⟩
  rw [if_neg h2] at h
  have hb2 : (a0 == 0) = false := by simpa using h2
  split at h
  · rename_i hu
    obtain ⟨hu, hlo, hhi⟩ := hu
    injection h with h
    injection h with e1 e2
    have hx := unitB_iff.1 hu
    have b0 := lg_lt (a := a0.toNat) (by omega) (by omega)
    have l0 : field_log.f a0 = some (lg a0.toNat : Int) := by unfold field_log.f; rw [if_pos hu]
    generalize lg a0.toNat = p at *
    have HL0 := Aside0.mk l0
    have hcell := tab_cell HT.out (p * (a1 % 63).toNat)
    rw [e1] at hcell
    clear hx l0 hu e1 h1 h2
    subst e2
    obtain ⟨s, hs⟩ : ∃ s : Nat, (s : Int) = Int.tmod a1 63 + 63 := ⟨(Int.tmod a1 63 + 63).toNat, by have := Int.tmod_lt_of_pos a1 (show (0 : Int) < 63 by decide); have := Int.lt_tmod_of_pos a1 (show (0 : Int) < 63 by decide); omega⟩
    obtain ⟨ee, hee⟩ : ∃ ee, ee = (a1 % 63).toNat := ⟨_, rfl⟩
    have hsb : s < 126 := by have := Int.tmod_lt_of_pos a1 (show (0 : Int) < 63 by decide); omega
    have hsm : s % 63 = ee := by
      rw [hee]
      have h1 : a1 = 63 * Int.tdiv a1 63 + Int.tmod a1 63 := (Int.mul_tdiv_add_tmod a1 63).symm
      omega
    have hel : ee < 63 := by omega
    obtain ⟨m, hm⟩ : ∃ m, m = p * ee := ⟨_, rfl⟩
    have hml : m ≤ 62 * 62 := by rw [hm]; exact Nat.mul_le_mul (by omega) (by omega)
    obtain ⟨q, hq⟩ : ∃ q, q = m % 63 := ⟨_, rfl⟩
    have hql : q < 63 := by omega
    rw [← hee, ← hm, ← hq] at hcell
    have g1 : IntKind.i64.wrap (Int.tmod a1 63 + 63) = (s : Int) := by rw [← hs]; exact IntWalk.i64_in _ (by omega)
    have g2 : Int.tmod (s : Int) 63 = (ee : Int) := by rw [tmod_nat, hsm]
    have g3 : IntKind.i64.wrap ((p : Int) * (ee : Int)) = (m : Int) := by rw [show (p : Int) * (ee : Int) = (m : Int) by rw [hm]; push_cast; rfl]; exact IntWalk.i64_in _ (by omega)
    have g4 : Int.tmod (m : Int) 63 = (q : Int) := by rw [tmod_nat, hq]
    clear hs hee hsb hsm hel hm hml hq
    go_enter Tryd.func28, Tryd.ntmps28
    go_wp2
    go_quiet ((go_at_call 52; exact Calls.quiet_of ((field_log.calls a0 _ _ (Kd.C_drewN HT.out _) HL0.out).mono fun e w' h => ⟨h.1, h.2.out⟩)))
    go_wp2
    go_ret2
    exact ⟨rfl, ⟨⟨_, rfl⟩⟩⟩
  · cases h
end Go.Proofs.YtehgfpfmpkmdmaaDoor.Print

namespace Go.Proofs.YtehgfpfmpkmdmaaDoor.Print
open Go.RowKit Go.Proofs.YtehgfpfmpkmdmaaDoorW.PrintWords Go.Proofs.YtehgfpfmpkmdmaaDoorW.PrintLast Go.Proofs.YtehgfpfmpkmdmaaDoorW.PrintMore
open Go.Proofs.YtehgfpfmpkmdmaaDoor.Gf
set_option linter.unusedVariables false
set_option linter.unusedSimpArgs false
def elB (a : Int) : Bool := decide (0 ≤ a) && decide (a < 64)
theorem elB_iff {a : Int} : elB a = true ↔ 0 ≤ a ∧ a < 64 := by simp [elB]
def mI (a b : Int) : Int := (ml a.toNat b.toNat : Int)
theorem mul_mI {a b : Int} (ha : elB a = true) (hb : elB b = true) : field_mul.f a b = some (mI a b) := by
  rw [elB_iff] at ha hb
  unfold field_mul.f mI
  by_cases h0 : a = 0
  · rw [if_pos h0, h0, show (0 : Int).toNat = 0 from rfl, ml_zero_left]; rfl
  · rw [if_neg h0]
    by_cases h1 : b = 0
    · rw [if_pos h1, h1, show (0 : Int).toNat = 0 from rfl, ml_zero_right]; rfl
    · rw [if_neg h1, if_pos (by simp [unitB]; omega)]
def addAt (out : List Int) (n : Int) (v : Int) : List Int := out.set n.toNat (Go.bits .xor .u8 (rd out n) v)
/-- A row of the product: a times q, from place i on. -/
def mulRow (i : Nat) (a : Int) : Nat → List Int → List Int → List Int
  | _, [], out => out
  | j, b :: q, out => mulRow i a (j + 1) q (addAt out ((i + j : Nat) : Int) (mI a b))
def prodRows : Nat → List Int → List Int → List Int → List Int
  | _, [], _, out => out
  | i, a :: p, q, out => prodRows (i + 1) p q (mulRow i a 0 q out)
def prodI (p q : List Int) : List Int := prodRows 0 p q (List.replicate (p.length + q.length - 1) 0)
def field_product.f (l0 l1 : List Int) : Option (List Int) :=
  (field_trim.f (l0.length + 1) l0).bind fun p => (field_trim.f (l1.length + 1) l1).bind fun q =>
    if p.length = 0 then some [] else if q.length = 0 then some [] else if (p.all elB && q.all elB && decide (p.length ≤ 100000) && decide (q.length ≤ 100000)) = true then some (prodI p q) else none
theorem addAt_len (out : List Int) (n v : Int) : (addAt out n v).length = out.length := by simp [addAt]
theorem mulRow_drop (i : Nat) (a : Int) (q out : List Int) (k : Nat) (h : k < q.length) : mulRow i a k (q.drop k) out = mulRow i a (k + 1) (q.drop (k + 1)) (addAt out ((i + k : Nat) : Int) (mI a (rd q (k : Int)))) := by
  rw [List.drop_eq_getElem_cons h, mulRow]
  simp [rd, List.getD_eq_getElem?_getD, List.getElem?_eq_getElem h]
theorem prodRows_drop (p q out : List Int) (k : Nat) (h : k < p.length) : prodRows k (p.drop k) q out = prodRows (k + 1) (p.drop (k + 1)) q (mulRow k (rd p (k : Int)) 0 q out) := by
  rw [List.drop_eq_getElem_cons h, prodRows]
  simp [rd, List.getD_eq_getElem?_getD, List.getElem?_eq_getElem h]
theorem all_rd {p : List Int} (h : p.all elB = true) {k : Nat} (hk : k < p.length) : elB (rd p (k : Int)) = true := by
  rw [rd, Int.toNat_natCast, List.getD_eq_getElem?_getD, List.getElem?_eq_getElem hk]
  exact List.all_eq_true.1 h _ (List.getElem_mem hk)
theorem row_get {α : Type} {d : Kd α} {e : Nat} {w : World} {base : Nat} {ok : Nat → Prop} {v : Value} {xs : List α} (h : d.R e w base ok v xs) : ∃ A c, v = .slice A xs.length c ∧ xs.length ≤ c ∧ d.C w A xs.length xs := by
  obtain ⟨A, c, rfl⟩ := Kd.R_slice h
  exact ⟨A, c, rfl, (Kd.R_reads' h).2.1, (Kd.R_reads' h).2.2⟩
set_option maxHeartbeats 1000000 in
theorem add60 (i : Int) (a : Int) (B g c n : Nat) (xs : List Int) (base : Nat) (ok : Nat → Prop) (w : World) (hn : xs.length = n) (h0 : 0 ≤ i) (hi : i < n) (hB : w.heap[B]? = some (.cells #[.slice (some ⟨g, 0, none⟩) n c] 22 (0, 0)))
    (HO : Kd.R (Kd.int .u8) 5 w base ok (.slice (some ⟨g, 0, none⟩) n c) xs) :
    Calls Tryd.prog 60 #[.int .i64 i, .int .u8 a, .pointer (some ⟨B, 0, none⟩)] w fun e w' => e = .returned (.tuple #[]) ∧ w' = w.setCell ⟨g, i.toNat, none⟩ (.int .u8 (Go.bits .xor .u8 (rd xs i) a)) := by
  subst hn
  have hB0 : w.cell? ⟨B, 0, none⟩ = some (.slice (some ⟨g, 0, none⟩) xs.length c) := (blk_cell hB 0).trans rfl
  obtain ⟨hx, hf⟩ := Kd.R_celln 0 HO i (by omega) (by omega)
  have hx' : w.cell? ⟨g, i.toNat, none⟩ = some (.int .u8 (rd xs i)) := hx
  have e1 : decide (i < (xs.length : Int)) = true := decide_eq_true (by omega)
  have e0 : decide (0 ≤ i) = true := decide_eq_true (by omega)
  have H := Aside0.mk HO
  have HBB := Aside0.mk hB
  clear HO hB hx
  go_enter Tryd.func60, Tryd.ntmps60
  go_wp2
  go_end0
  exact ⟨rfl, rfl⟩
set_option maxHeartbeats 4000000 in
theorem field_product.calls (A0 : Option Addr) (c0 : Nat) (l0 : List Int) (A1 : Option Addr) (c1 : Nat) (l1 : List Int) (r : List Int) (w : World) (hr0 : Kd.C (Kd.int .u8) w A0 l0.length l0) (hc0 : l0.length ≤ c0) (hr1 : Kd.C (Kd.int .u8) w A1 l1.length l1) (hc1 : l1.length ≤ c1) (hT : Kd.C (Kd.int .u8) w (some ⟨0, 0, none⟩) 63 pwI) (h : field_product.f l0 l1 = some r) :
    Calls Tryd.prog 48 #[.slice A0 l0.length c0, .slice A1 l1.length c1] w fun e w' => ∃ v0_ : Value, e = .returned (v0_) ∧ Kd.R (Kd.int .u8) 5 w' w.heap.size (fun _ => True) v0_ r ∧ Below w.heap.size w w' := by
  have HR0 := Aside0.mk hr0
  have HR1 := Aside0.mk hr1
  have HT := Aside0.mk hT
  clear hr0 hr1 hT
  unfold field_product.f at h
  replace h := Option.bind_eq_some_iff.mp h
  obtain ⟨p, hp, h⟩ := h
  replace h := Option.bind_eq_some_iff.mp h
  obtain ⟨q, hq, h⟩ := h
  have A0' := Aside0.mk hp
  have A1' := Aside0.mk hq
  clear hp hq
  by_cases hp0 : p.length = 0
  · rw [if_pos hp0] at h
    injection h with h
    subst h
    have e1 : ((p.length : Int) == 0) = true := by simp [hp0]
    clear hp0
    go_enter Tryd.func48, Tryd.ntmps48
    go_wp2_with (first
      | ((with_reducible refine gate_dst (N := 12) rfl ?_); go_must (refine goesL_ (some 12) rfl rfl Tryd.func46 (by kernel_rfl) rfl #[.slice A0 l0.length c0] rfl (by (try simp only [List.map_toArray, List.map_cons, List.map_nil]); first | done | rfl) ?_; refine (field_trim.calls (l0.length + 1) A0 c0 l0 p w HR0.out hc0 A0'.out).mono ?_)
         rintro e w1 ⟨v1, rfl, ho, hb⟩
         obtain ⟨P, cp, rfl, hcp, hCP⟩ := row_get ho
         refine ⟨_, rfl, ?_⟩
         have HB1 := Aside0.mk hb
         have HP := Aside0.mk hCP
         clear hb ho hCP)
      | ((with_reducible refine gate_dst (N := 14) rfl ?_); go_must (refine goesL_ (some 14) rfl rfl Tryd.func46 (by kernel_rfl) rfl #[.slice A1 l1.length c1] rfl (by (try simp only [List.map_toArray, List.map_cons, List.map_nil]); first | done | rfl) ?_; refine (field_trim.calls (l1.length + 1) A1 c1 l1 q w1 (Kd.C_below HR1.out HB1.out) hc1 A1'.out).mono ?_)
         rintro e w2 ⟨v2, rfl, ho, hb⟩
         obtain ⟨Q, cq, rfl, hcq, hCQ⟩ := row_get ho
         refine ⟨_, rfl, ?_⟩
         have HB2 := Aside0.mk (below_then HB1.out HB1.out.size hb)
         replace HP := Aside0.mk (Kd.C_below HP.out hb)
         have HQ := Aside0.mk hCQ
         clear hb ho hCQ))
    go_ret
    exact ⟨_, rfl, Kd.R_nil _ _ _ _ _, HB2.out⟩
  rw [if_neg hp0] at h
  by_cases hq0 : q.length = 0
  · rw [if_pos hq0] at h
    injection h with h
    subst h
    have e1 : ((p.length : Int) == 0) = false := by simpa using hp0
    have e2 : ((q.length : Int) == 0) = true := by simp [hq0]
    clear hp0 hq0
    go_enter Tryd.func48, Tryd.ntmps48
    go_wp2_with (first
      | ((with_reducible refine gate_dst (N := 12) rfl ?_); go_must (refine goesL_ (some 12) rfl rfl Tryd.func46 (by kernel_rfl) rfl #[.slice A0 l0.length c0] rfl (by (try simp only [List.map_toArray, List.map_cons, List.map_nil]); first | done | rfl) ?_; refine (field_trim.calls (l0.length + 1) A0 c0 l0 p w HR0.out hc0 A0'.out).mono ?_)
         rintro e w1 ⟨v1, rfl, ho, hb⟩
         obtain ⟨P, cp, rfl, hcp, hCP⟩ := row_get ho
         refine ⟨_, rfl, ?_⟩
         have HB1 := Aside0.mk hb
         have HP := Aside0.mk hCP
         clear hb ho hCP)
      | ((with_reducible refine gate_dst (N := 14) rfl ?_); go_must (refine goesL_ (some 14) rfl rfl Tryd.func46 (by kernel_rfl) rfl #[.slice A1 l1.length c1] rfl (by (try simp only [List.map_toArray, List.map_cons, List.map_nil]); first | done | rfl) ?_; refine (field_trim.calls (l1.length + 1) A1 c1 l1 q w1 (Kd.C_below HR1.out HB1.out) hc1 A1'.out).mono ?_)
         rintro e w2 ⟨v2, rfl, ho, hb⟩
         obtain ⟨Q, cq, rfl, hcq, hCQ⟩ := row_get ho
         refine ⟨_, rfl, ?_⟩
         have HB2 := Aside0.mk (below_then HB1.out HB1.out.size hb)
         replace HP := Aside0.mk (Kd.C_below HP.out hb)
         have HQ := Aside0.mk hCQ
         clear hb ho hCQ))
    go_ret
    exact ⟨_, rfl, Kd.R_nil _ _ _ _ _, HB2.out⟩
  rw [if_neg hq0] at h
  split at h
  · rename_i hall
    injection h with h
    simp only [Bool.and_eq_true, decide_eq_true_eq] at hall
    obtain ⟨⟨⟨hpe, hqe⟩, hpl⟩, hql⟩ := hall
    have e1 : ((p.length : Int) == 0) = false := by simpa using hp0
    have e2 : ((q.length : Int) == 0) = false := by simpa using hq0
    have hp1 : 1 ≤ p.length := by omega
    have hq1 : 1 ≤ q.length := by omega
    have HPE := Aside0.mk hpe
    have HQE := Aside0.mk hqe
    have HR := Aside0.mk h
    obtain ⟨n, hn⟩ : ∃ n, n = p.length + q.length - 1 := ⟨_, rfl⟩
    have hn1 : (p.length : Int) + (q.length : Int) - 1 = (n : Int) := by omega
    obtain ⟨z, hz⟩ : ∃ z : List Int, z = List.replicate n 0 := ⟨_, rfl⟩
    have HZ := Aside0.mk hz
    have hzl : z.length = n := by rw [hz, List.length_replicate]
    have HZL := Aside0.mk hzl
    have HRZ := Aside0.mk (show prodRows 0 (p.drop 0) q z = r by rw [← h, prodI, List.drop_zero, hz, hn])
    have hn1le : 1 ≤ n := by omega
    have HN := Aside0.mk hn
    clear h hpe hqe hz hp0 hq0 hzl hn
    go_enter Tryd.func48, Tryd.ntmps48
    go_wp2_with (first
      | ((with_reducible refine gate_dst (N := 12) rfl ?_); go_must (refine goesL_ (some 12) rfl rfl Tryd.func46 (by kernel_rfl) rfl #[.slice A0 l0.length c0] rfl (by (try simp only [List.map_toArray, List.map_cons, List.map_nil]); first | done | rfl) ?_; refine (field_trim.calls (l0.length + 1) A0 c0 l0 p w HR0.out hc0 A0'.out).mono ?_)
         rintro e w1 ⟨v1, rfl, ho, hb⟩
         obtain ⟨P, cp, rfl, hcp, hCP⟩ := row_get ho
         refine ⟨_, rfl, ?_⟩
         have HB1 := Aside0.mk hb
         have HP := Aside0.mk hCP
         clear hb ho hCP)
      | ((with_reducible refine gate_dst (N := 14) rfl ?_); go_must (refine goesL_ (some 14) rfl rfl Tryd.func46 (by kernel_rfl) rfl #[.slice A1 l1.length c1] rfl (by (try simp only [List.map_toArray, List.map_cons, List.map_nil]); first | done | rfl) ?_; refine (field_trim.calls (l1.length + 1) A1 c1 l1 q w1 (Kd.C_below HR1.out HB1.out) hc1 A1'.out).mono ?_)
         rintro e w2 ⟨v2, rfl, ho, hb⟩
         obtain ⟨Q, cq, rfl, hcq, hCQ⟩ := row_get ho
         refine ⟨_, rfl, ?_⟩
         have HB2 := Aside0.mk (below_then HB1.out HB1.out.size hb)
         replace HP := Aside0.mk (Kd.C_below HP.out hb)
         have HQ := Aside0.mk hCQ
         clear hb ho hCQ)
      | ((with_reducible refine gate_dst (N := 29) rfl ?_); go_must (refine Kd.R_make (Kd.int .u8) (w0 := w2) w2.heap.size 5 rfl (N := 29) rfl 22 _ _ rfl (n : Int) rfl rfl Tryd.underlying22 (.int .u8 0) 1 info5 rfl (by decide) (by omega) 0 (ok := fun _ => True) (okp := fun _ => True) rfl (fun _ hk => hk) trivial (by omega) (by omega) (Below.refl _ _) (Nat.le_refl _) ?_)
         intro v29 w3 ho hb hg hat
         rw [Int.toNat_natCast, ← HZ.out] at ho
         obtain ⟨g, cz, ez, hgb, hgl, hgc⟩ := Kd.R_form ho (by rw [HZL.out]; omega)
         subst ez
         have HO3 := Aside0.mk ho
         have HB3 := Aside0.mk hb
         clear hgc hg hat ho hb))
    have HB4 := Aside0.mk (below_alloc (w := w2) HB3.out (.cells #[.slice (some ⟨g, 0, none⟩) z.length cz] 22))
    have HK4 := Aside0.mk (blk_new w3 (.cells #[.slice (some ⟨g, 0, none⟩) z.length cz] 22))
    have HO4 := Aside0.mk (Kd.R_alloc HO3.out (.cells #[.slice (some ⟨g, 0, none⟩) z.length cz] 22))
    generalize hB : w3.heap.size = B at HK4 hgl ⊢
    generalize w3.alloc (.cells #[.slice (some ⟨g, 0, none⟩) z.length cz] 22) = w4 at HB4 HK4 HO4 ⊢
    have hgB : g ≠ B := by omega
    have hBB : w2.heap.size ≤ B := by have := HB3.out.size; omega
    clear hB HO3 HB3
    rw [HZL.out] at HK4 HO4 ⊢
    have HZL' := HZL
    go_loopw [33] (fun vi wr => ∃ (k : Nat) (out : List Int), k ≤ p.length ∧ vi = .int .i64 k ∧ Aside0 (out.length = n ∧ prodRows k (p.drop k) q out = r) ∧ Aside0 (Kd.R (Kd.int .u8) 5 wr w2.heap.size (fun _ => True) (.slice (some ⟨g, 0, none⟩) n cz) out) ∧ Aside0 (wr.heap[B]? = some (.cells #[.slice (some ⟨g, 0, none⟩) n cz] 22 (0, 0))) ∧ Aside0 (Below w2.heap.size w2 wr)) (fun vi _ => p.length - (intOf vi).toNat)
    case atStart => exact ⟨0, z, Nat.zero_le _, rfl, ⟨HZL.out, HRZ.out⟩, HO4, HK4, HB4⟩
    case round =>
      clear HO4 HK4 HB4 w4
      obtain ⟨k, out, hk, rfl, HI, HO, HK, HB⟩ := hrel
      by_cases hlt : k < p.length
      · obtain ⟨ad, rfl, hcell⟩ := Kd.at_int (Kd.C_below HP.out HB.out) (k : Int) (by omega) (by omega)
        rw [Int.toNat_natCast] at hcell
        have HD := Aside0.mk (prodRows_drop p q out k hlt)
        have HE := Aside0.mk (all_rd HPE.out hlt)
        generalize rd p (k : Int) = a at hcell HD HE
        obtain ⟨wo, rfl⟩ : ∃ wo : World, wo = wr := ⟨_, rfl⟩
        go_wp2
        go_loopw [40] (fun vi wr => ∃ (j : Nat) (out2 : List Int), j ≤ q.length ∧ vi = .int .i64 j ∧ Aside0 (out2.length = n ∧ mulRow k a j (q.drop j) out2 = mulRow k a 0 q out) ∧ Aside0 (Kd.R (Kd.int .u8) 5 wr w2.heap.size (fun _ => True) (.slice (some ⟨g, 0, none⟩) n cz) out2) ∧ Aside0 (wr.heap[B]? = some (.cells #[.slice (some ⟨g, 0, none⟩) n cz] 22 (0, 0))) ∧ Aside0 (Below w2.heap.size w2 wr)) (fun vi _ => q.length - (intOf vi).toNat)
        case atStart => exact ⟨0, out, Nat.zero_le _, rfl, ⟨HI.out.1, rfl⟩, HO, HK, HB⟩
        case round =>
          have HIo := HI
          clear HI HO HK HB hcell
          obtain ⟨j, out2, hj, rfl, HI, HO, HK, HB⟩ := hrel
          by_cases hlj : j < q.length
          · obtain ⟨ad2, rfl, hcell⟩ := Kd.at_int (Kd.C_below HQ.out HB.out) (j : Int) (by omega) (by omega)
            rw [Int.toNat_natCast] at hcell
            have HD2 := Aside0.mk (mulRow_drop k a q out2 j hlj)
            have HE2 := Aside0.mk (all_rd HQE.out hlj)
            generalize rd q (j : Int) = b at hcell HD2 HE2
            have HM := Aside0.mk (mul_mI HE.out HE2.out)
            have HW := Aside0.mk (below_then HB2.out HB2.out.size HB.out)
            have hnl := HN.out
            have hkj : 0 ≤ (k : Int) + (j : Int) := by omega
            have hkn : (k : Int) + (j : Int) < (n : Int) := by omega
            clear hnl
            go_wp2_with (first
              | (go_at_call 53; refine (field_mul.calls a b _ _ (Kd.C_below HT.out HW.out) HM.out).mono ?_; rintro e w' ⟨rfl, hd⟩; obtain ⟨nd, rfl⟩ := hd)
              | (go_at_call 60; refine (add60 ((k : Int) + (j : Int)) (mI a b) B g cz n out2 _ _ _ HI.out.1 hkj hkn (blk_drewN HK.out _) (Kd.R_drewN HO.out _)).mono ?_
                 rintro e w5 ⟨rfl, hw⟩
                 have HO5 := Aside0.mk (show Kd.R (Kd.int .u8) 5 w5 w2.heap.size (fun _ => True) (.slice (some ⟨g, 0, none⟩) n cz) (addAt out2 ((k + j : Nat) : Int) (mI a b)) by rw [hw]; exact (Kd.R_putg (Kd.R_drewN HO.out _) ((k : Int) + (j : Int)) _).1)
                 have HK5 := Aside0.mk (show w5.heap[B]? = some (.cells #[.slice (some ⟨g, 0, none⟩) n cz] 22 (0, 0)) by rw [hw]; exact blk_far (blk_drewN HK.out _) hgB.symm _)
                 have HB5 := Aside0.mk (show Below w2.heap.size w2 w5 by rw [hw]; exact below_set (pw_below_drewN HB.out _) hgb)
                 clear hw))
            go_roundw
            case rel => exact ⟨j + 1, addAt out2 ((k + j : Nat) : Int) (mI a b), by omega, by go_num, ⟨by rw [addAt_len]; exact HI.out.1, HD2.out.symm.trans HI.out.2⟩, HO5, HK5, HB5⟩
            case measure => simp [intOf]; omega
          · have hjq : j = q.length := by omega
            have HJ := Aside0.mk (show out2 = mulRow k a 0 q out by rw [← HI.out.2, hjq, List.drop_length]; rfl)
            clear hjq
            go_wp2
            go_roundw
            case rel => exact ⟨k + 1, out2, by omega, by go_num, ⟨HI.out.1, by rw [HJ.out]; exact HD.out.symm.trans HIo.out.2⟩, HO, HK, HB⟩
            case measure => simp [intOf]; omega
      · have hkp : k = p.length := by omega
        have HJ := Aside0.mk (show out = r by rw [← HI.out.2, hkp, List.drop_length]; rfl)
        have hB0 : wr.cell? ⟨B, 0, none⟩ = some (.slice (some ⟨g, 0, none⟩) n cz) := (blk_cell HK.out 0).trans rfl
        clear hkp
        go_wp2
        go_ret
        exact ⟨_, rfl, by rw [← HJ.out]; exact Kd.R_lower HO.out HB2.out.size, below_then HB2.out HB2.out.size HB.out⟩
  · cases h
end Go.Proofs.YtehgfpfmpkmdmaaDoor.Print
