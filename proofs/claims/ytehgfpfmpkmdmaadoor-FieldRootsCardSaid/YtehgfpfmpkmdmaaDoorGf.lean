/- The field of 64 elements on natural numbers and as a type; polynomials over it as lists of coefficients: sums, products, values, degrees, division with its uniqueness, roots. Plain Lean, no program. -/
/- The field of 64 elements on natural numbers below 64: sums are exclusive ors, products go by a table of the powers of 2. Plain facts, no program. -/
namespace Go.Proofs.YtehgfpfmpkmdmaaDoor.Gf

def pw : List Nat := [1, 2, 4, 8, 16, 32, 3, 6, 12, 24, 48, 35, 5, 10, 20, 40, 19, 38, 15, 30, 60, 59, 53, 41, 17, 34, 7, 14, 28, 56, 51, 37, 9, 18, 36, 11, 22, 44, 27, 54, 47, 29, 58, 55, 45, 25, 50, 39, 13, 26, 52, 43, 21, 42, 23, 46, 31, 62, 63, 61, 57, 49, 33]
def ex (n : Nat) : Nat := pw.getD (n % 63) 0
def lg (a : Nat) : Nat := pw.idxOf a
def ml (a b : Nat) : Nat := if a = 0 ∨ b = 0 then 0 else ex (lg a + lg b)
def iv (a : Nat) : Nat := ex (63 - lg a)
def dbl (a : Nat) : Nat := if a < 32 then 2 * a else (2 * a) ^^^ 67

theorem ex_mod (n : Nat) : ex (n % 63) = ex n := by unfold ex; rw [Nat.mod_mod]
theorem ex_add63 (n : Nat) : ex (n + 63) = ex n := by unfold ex; rw [Nat.add_mod_right]
theorem tab_ex : ∀ n, n < 63 → (pw.getD n 0 ≠ 0 ∧ pw.getD n 0 < 64 ∧ pw.idxOf (pw.getD n 0) = n) := by decide +kernel
theorem tab_lg : ∀ a, a < 64 → a ≠ 0 → (pw.idxOf a < 63 ∧ pw.getD (pw.idxOf a) 0 = a) := by decide +kernel
theorem ex_ne (n : Nat) : ex n ≠ 0 := (tab_ex _ (Nat.mod_lt _ (by decide))).1
theorem ex_lt (n : Nat) : ex n < 64 := (tab_ex _ (Nat.mod_lt _ (by decide))).2.1
theorem lg_ex (n : Nat) : lg (ex n) = n % 63 := (tab_ex _ (Nat.mod_lt _ (by decide))).2.2
theorem lg_lt {a : Nat} (h : a < 64) (h0 : a ≠ 0) : lg a < 63 := (tab_lg a h h0).1
theorem ex_lg {a : Nat} (h : a < 64) (h0 : a ≠ 0) : ex (lg a) = a := by
  have := tab_lg a h h0
  unfold ex lg
  rw [Nat.mod_eq_of_lt this.1]
  exact this.2
theorem ex_inj {m n : Nat} (h : ex m = ex n) : m % 63 = n % 63 := by rw [← lg_ex, h, lg_ex]

theorem ml_zero_left (b : Nat) : ml 0 b = 0 := by simp [ml]
theorem ml_zero_right (a : Nat) : ml a 0 = 0 := by simp [ml]
theorem ml_lt (a b : Nat) : ml a b < 64 := by
  unfold ml
  split
  · decide
  · exact ex_lt _
theorem ml_comm (a b : Nat) : ml a b = ml b a := by
  unfold ml
  rw [Nat.add_comm]
  simp only [Or.comm]
theorem ml_ne {a b : Nat} (ha : a ≠ 0) (hb : b ≠ 0) : ml a b ≠ 0 := by
  unfold ml
  rw [if_neg (by simp [ha, hb])]
  exact ex_ne _
theorem ml_eq_zero {a b : Nat} (h : ml a b = 0) : a = 0 ∨ b = 0 := by
  rcases Nat.eq_zero_or_pos a with h1 | h1
  · exact .inl h1
  · rcases Nat.eq_zero_or_pos b with h2 | h2
    · exact .inr h2
    · exact absurd h (ml_ne (by omega) (by omega))
theorem ml_pos {a b : Nat} (ha : a ≠ 0) (hb : b ≠ 0) : ml a b = ex (lg a + lg b) := by
  unfold ml
  rw [if_neg (by simp [ha, hb])]
theorem ml_assoc (a b c : Nat) : ml (ml a b) c = ml a (ml b c) := by
  by_cases ha : a = 0
  · subst ha; simp [ml_zero_left]
  by_cases hb : b = 0
  · subst hb; simp [ml_zero_left, ml_zero_right]
  by_cases hc : c = 0
  · subst hc; simp [ml_zero_right]
  rw [ml_pos (ml_ne ha hb) hc, ml_pos ha (ml_ne hb hc), ml_pos ha hb, ml_pos hb hc, lg_ex, lg_ex]
  unfold ex
  congr 1
  omega
theorem ml_one {a : Nat} (h : a < 64) : ml a 1 = a := by
  by_cases ha : a = 0
  · subst ha; decide
  · rw [ml_pos ha (by decide)]
    have : lg 1 = 0 := by decide
    rw [this, Nat.add_zero, ex_lg h ha]
theorem one_ml {a : Nat} (h : a < 64) : ml 1 a = a := by rw [ml_comm, ml_one h]
theorem iv_lt (a : Nat) : iv a < 64 := ex_lt _
theorem iv_ne (a : Nat) : iv a ≠ 0 := ex_ne _
theorem ml_iv {a : Nat} (h : a < 64) (h0 : a ≠ 0) : ml a (iv a) = 1 := by
  unfold iv
  rw [ml_pos h0 (ex_ne _), lg_ex]
  have := lg_lt h h0
  unfold ex
  rw [show (lg a + (63 - lg a) % 63) % 63 = 0 by omega]
  rfl
theorem iv_ml {a : Nat} (h : a < 64) (h0 : a ≠ 0) : ml (iv a) a = 1 := by rw [ml_comm, ml_iv h h0]

/-! sums -/
theorem xor_lt {a b : Nat} (ha : a < 64) (hb : b < 64) : a ^^^ b < 64 := Nat.xor_lt_two_pow (n := 6) ha hb
theorem dbl_is : ∀ a, a < 64 → ml 2 a = dbl a := by decide +kernel
theorem dbl_xor : ∀ a, a < 64 → ∀ b, b < 64 → dbl (a ^^^ b) = dbl a ^^^ dbl b := by decide +kernel
theorem two_xor {a b : Nat} (ha : a < 64) (hb : b < 64) : ml 2 (a ^^^ b) = ml 2 a ^^^ ml 2 b := by
  rw [dbl_is _ (xor_lt ha hb), dbl_is a ha, dbl_is b hb, dbl_xor a ha b hb]
theorem ex_succ (n : Nat) : ex (n + 1) = ml 2 (ex n) := by
  rw [ml_pos (by decide) (ex_ne n), lg_ex]
  have : lg 2 = 1 := by decide
  rw [this]
  unfold ex
  congr 1
  omega
theorem ex_distrib (n : Nat) {b c : Nat} (hb : b < 64) (hc : c < 64) : ml (ex n) (b ^^^ c) = ml (ex n) b ^^^ ml (ex n) c := by
  induction n with
  | zero =>
    have : ex 0 = 1 := by decide
    rw [this, one_ml hb, one_ml hc, one_ml (xor_lt hb hc)]
  | succ n ih => rw [ex_succ, ml_assoc, ml_assoc, ml_assoc, ih, two_xor (ml_lt _ _) (ml_lt _ _)]
theorem ml_xor {a b c : Nat} (ha : a < 64) (hb : b < 64) (hc : c < 64) : ml a (b ^^^ c) = ml a b ^^^ ml a c := by
  by_cases h0 : a = 0
  · subst h0; simp [ml_zero_left]
  · rw [← ex_lg ha h0]; exact ex_distrib _ hb hc
theorem xor_ml {a b c : Nat} (ha : a < 64) (hb : b < 64) (hc : c < 64) : ml (b ^^^ c) a = ml b a ^^^ ml c a := by
  rw [ml_comm, ml_xor ha hb hc, ml_comm a b, ml_comm a c]

end Go.Proofs.YtehgfpfmpkmdmaaDoor.Gf

/- The field of 64 elements as a type, and polynomials over it as lists of coefficients: sums, products, values, degrees, division with its uniqueness, roots. Plain Lean, no program. -/
namespace Go.Proofs.YtehgfpfmpkmdmaaDoor.Gf

/-- An element. -/
structure F where
  v : Nat
  h : v < 64
deriving DecidableEq
theorem F.ext {a b : F} (h : a.v = b.v) : a = b := by
  cases a; cases b; simp_all
instance : Add F := ⟨fun a b => ⟨a.v ^^^ b.v, xor_lt a.h b.h⟩⟩
instance : Mul F := ⟨fun a b => ⟨ml a.v b.v, ml_lt _ _⟩⟩
instance : OfNat F 0 := ⟨⟨0, by decide⟩⟩
instance : OfNat F 1 := ⟨⟨1, by decide⟩⟩
instance : Inhabited F := ⟨0⟩
def inv (a : F) : F := ⟨iv a.v, iv_lt _⟩
theorem add_v (a b : F) : (a + b).v = a.v ^^^ b.v := rfl
theorem mul_v (a b : F) : (a * b).v = ml a.v b.v := rfl
theorem zero_v : (0 : F).v = 0 := rfl
theorem one_v : (1 : F).v = 1 := rfl
theorem ne_v {a : F} (h : a ≠ 0) : a.v ≠ 0 := fun e => h (F.ext e)
theorem add_comm (a b : F) : a + b = b + a := F.ext (Nat.xor_comm _ _)
theorem add_assoc (a b c : F) : a + b + c = a + (b + c) := F.ext (Nat.xor_assoc _ _ _)
theorem add_zero (a : F) : a + 0 = a := F.ext (Nat.xor_zero _)
theorem zero_add (a : F) : 0 + a = a := F.ext (Nat.zero_xor _)
theorem add_self (a : F) : a + a = 0 := F.ext (Nat.xor_self a.v)
theorem mul_comm (a b : F) : a * b = b * a := F.ext (ml_comm _ _)
theorem mul_assoc (a b c : F) : a * b * c = a * (b * c) := F.ext (ml_assoc _ _ _)
theorem mul_one (a : F) : a * 1 = a := F.ext (ml_one a.h)
theorem one_mul (a : F) : 1 * a = a := F.ext (one_ml a.h)
theorem mul_zero (a : F) : a * 0 = 0 := F.ext (ml_zero_right a.v)
theorem zero_mul (a : F) : 0 * a = 0 := F.ext (ml_zero_left a.v)
theorem mul_add (a b c : F) : a * (b + c) = a * b + a * c := F.ext (ml_xor a.h b.h c.h)
theorem add_mul (a b c : F) : (b + c) * a = b * a + c * a := F.ext (xor_ml a.h b.h c.h)
theorem mul_inv {a : F} (h : a ≠ 0) : a * inv a = 1 := F.ext (ml_iv a.h (ne_v h))
theorem inv_mul {a : F} (h : a ≠ 0) : inv a * a = 1 := F.ext (iv_ml a.h (ne_v h))
theorem mul_eq_zero {a b : F} (h : a * b = 0) : a = 0 ∨ b = 0 := by
  rcases ml_eq_zero (congrArg F.v h) with h | h
  · exact .inl (F.ext h)
  · exact .inr (F.ext h)
instance : Std.Associative (α := F) (· + ·) := ⟨add_assoc⟩
instance : Std.Commutative (α := F) (· + ·) := ⟨add_comm⟩
instance : Std.Associative (α := F) (· * ·) := ⟨mul_assoc⟩
instance : Std.Commutative (α := F) (· * ·) := ⟨mul_comm⟩
theorem add_cancel {a b c : F} (h : a + b = a + c) : b = c := by
  have := congrArg (a + ·) h
  simpa [← add_assoc, add_self, zero_add] using this
theorem eq_of_add {a b : F} (h : a + b = 0) : a = b := by
  have := congrArg (a + ·) h
  simp only [← add_assoc, add_self, zero_add, add_zero] at this
  exact this.symm
theorem mul_cancel {a b c : F} (ha : a ≠ 0) (h : a * b = a * c) : b = c := by
  have := congrArg (inv a * ·) h
  simpa [← mul_assoc, inv_mul ha, one_mul] using this

/-! ### polynomials -/
abbrev Poly := List F
/-- The coefficient at i, 0 where there is none. -/
def cf (p : Poly) (i : Nat) : F := p.getD i 0
theorem cf_nil (i : Nat) : cf [] i = 0 := rfl
theorem cf_zero (a : F) (p : Poly) : cf (a :: p) 0 = a := rfl
theorem cf_succ (a : F) (p : Poly) (i : Nat) : cf (a :: p) (i + 1) = cf p i := rfl
theorem cf_ge {p : Poly} {i : Nat} (h : p.length ≤ i) : cf p i = 0 := by
  simp [cf, List.getD_eq_getElem?_getD, List.getElem?_eq_none h]
theorem cf_get {p : Poly} {i : Nat} (h : i < p.length) : cf p i = p[i] := by
  simp [cf, List.getD_eq_getElem?_getD, List.getElem?_eq_getElem h]
/-- The same polynomial. -/
def Eqv (p q : Poly) : Prop := ∀ i, cf p i = cf q i
theorem Eqv.refl (p : Poly) : Eqv p p := fun _ => rfl
theorem Eqv.symm {p q : Poly} (h : Eqv p q) : Eqv q p := fun i => (h i).symm
theorem Eqv.trans {p q r : Poly} (h : Eqv p q) (k : Eqv q r) : Eqv p r := fun i => (h i).trans (k i)
/-- Its value. -/
def ev : Poly → F → F
  | [], _ => 0
  | a :: p, x => a + x * ev p x
theorem ev_zero {p : Poly} (h : Eqv p []) (x : F) : ev p x = 0 := by
  induction p with
  | nil => rfl
  | cons a p ih => rw [ev, ih (fun i => h (i + 1)), mul_zero, add_zero]; exact h 0
theorem ev_eqv {p q : Poly} (h : Eqv p q) (x : F) : ev p x = ev q x := by
  induction p generalizing q with
  | nil => exact (ev_zero h.symm x).symm
  | cons a p ih =>
    cases q with
    | nil => exact ev_zero h x
    | cons b q => rw [ev, ev, show a = b from h 0, ih (fun i => h (i + 1))]
/-- Without the zeros at its end. -/
def tr : Poly → Poly
  | [] => []
  | a :: p => match tr p with
    | [] => if a = 0 then [] else [a]
    | b :: t => a :: b :: t
theorem tr_eqv : ∀ p : Poly, Eqv (tr p) p
  | [], _ => rfl
  | a :: p, i => by
    have ih := tr_eqv p
    rw [tr]
    cases h : tr p with
    | nil =>
      rw [h] at ih
      simp only
      split
      · rename_i h0
        cases i with
        | zero => exact h0.symm
        | succ i => exact ih i
      · cases i with
        | zero => rfl
        | succ i => exact ih i
    | cons b t =>
      rw [h] at ih
      simp only
      cases i with
      | zero => rfl
      | succ i => exact ih i
theorem tr_nil_of {p : Poly} (h : Eqv p []) : tr p = [] := by
  induction p with
  | nil => rfl
  | cons a p ih => rw [tr, ih (fun i => h (i + 1))]; simp only; exact if_pos (h 0)
theorem tr_canon {p q : Poly} (h : Eqv p q) : tr p = tr q := by
  induction p generalizing q with
  | nil => exact (tr_nil_of h.symm).symm
  | cons a p ih =>
    cases q with
    | nil => exact tr_nil_of h
    | cons b q => rw [tr, tr, show a = b from h 0, ih (fun i => h (i + 1))]
theorem tr_tr (p : Poly) : tr (tr p) = tr p := tr_canon (tr_eqv p)
theorem eqv_of_tr {p q : Poly} (h : tr p = tr q) : Eqv p q := (tr_eqv p).symm.trans (h ▸ tr_eqv q)
/-- One more than the degree. -/
def dg (p : Poly) : Nat := (tr p).length
theorem dg_eqv {p q : Poly} (h : Eqv p q) : dg p = dg q := by rw [dg, tr_canon h, dg]
theorem dg_ge {p : Poly} {i : Nat} (h : dg p ≤ i) : cf p i = 0 := by rw [← tr_eqv p i]; exact cf_ge h
theorem tr_len : ∀ p : Poly, (tr p).length ≤ p.length
  | [] => Nat.le_refl _
  | a :: p => by
    have ih := tr_len p
    rw [tr]
    cases h : tr p with
    | nil => simp only; split <;> simp
    | cons b t => rw [h] at ih; simpa using ih
theorem dg_len (p : Poly) : dg p ≤ p.length := tr_len p
theorem tr_top : ∀ p : Poly, tr p ≠ [] → cf p ((tr p).length - 1) ≠ 0
  | [], h => absurd rfl h
  | a :: p, h => by
    have ih := tr_top p
    rw [tr] at h ⊢
    cases hp : tr p with
    | nil =>
      rw [hp] at h
      simp only at h ⊢
      split
      · rename_i h0; simp [h0] at h
      · rename_i h0; exact h0
    | cons b t =>
      rw [hp] at ih
      have := ih (by simp)
      exact this
theorem dg_top {p : Poly} (h : 0 < dg p) : cf p (dg p - 1) ≠ 0 := tr_top p (fun e => by rw [dg, e] at h; exact absurd h (by simp))
theorem dg_le {p : Poly} {n : Nat} (h : ∀ i, n ≤ i → cf p i = 0) : dg p ≤ n := by
  rcases Nat.lt_or_ge n (dg p) with h1 | h1
  · exact absurd (h (dg p - 1) (by omega)) (dg_top (by omega))
  · exact h1
theorem dg_eq {p : Poly} {n : Nat} (h : ∀ i, n < i → cf p i = 0) (h0 : cf p n ≠ 0) : dg p = n + 1 := by
  have h1 : dg p ≤ n + 1 := dg_le (fun i hi => h i (by omega))
  rcases Nat.lt_or_ge n (dg p) with h2 | h2
  · omega
  · exact absurd (dg_ge h2) h0
theorem dg_zero {p : Poly} (h : dg p = 0) : Eqv p [] := fun _ => dg_ge (by omega)
theorem tr_id {p : Poly} (h : p = [] ∨ cf p (p.length - 1) ≠ 0) : tr p = p := by
  induction p with
  | nil => rfl
  | cons a p ih =>
    rcases h with h | h
    · cases h
    · cases p with
      | nil =>
        rw [tr]
        have : a ≠ 0 := h
        simp [tr, this]
      | cons b t =>
        have h2 := ih (.inr (by simpa [cf] using h))
        rw [tr, h2]
/-- Two lists without zeros at their ends that are the same polynomial are the same list. -/
theorem tr_eq_of {p q : Poly} (h : Eqv p q) (hp : p = [] ∨ cf p (p.length - 1) ≠ 0) : p = tr q := by rw [← tr_canon h, tr_id hp]
theorem tr_last {p : Poly} : tr p = [] ∨ cf (tr p) ((tr p).length - 1) ≠ 0 := by
  rcases Nat.eq_zero_or_pos (tr p).length with h | h
  · exact .inl (List.eq_nil_of_length_eq_zero h)
  · right; rw [tr_eqv]; exact dg_top h

def addP : Poly → Poly → Poly
  | [], q => q
  | p, [] => p
  | a :: p, b :: q => (a + b) :: addP p q
theorem cf_add : ∀ (p q : Poly) (i : Nat), cf (addP p q) i = cf p i + cf q i
  | [], q, i => by rw [addP, cf_nil, zero_add]
  | a :: p, [], i => by rw [addP, cf_nil, add_zero]; intro h; cases h
  | a :: p, b :: q, i => by
    rw [addP]
    cases i with
    | zero => rfl
    | succ i => exact cf_add p q i
theorem ev_add : ∀ (p q : Poly) (x : F), ev (addP p q) x = ev p x + ev q x
  | [], q, x => by rw [addP, ev, zero_add]
  | a :: p, [], x => by rw [addP, ev, ev, add_zero]; intro h; cases h
  | a :: p, b :: q, x => by rw [addP, ev, ev_add p q x, ev, ev, mul_add]; ac_rfl
def smul (c : F) (p : Poly) : Poly := p.map (c * ·)
theorem cf_smul (c : F) (p : Poly) (i : Nat) : cf (smul c p) i = c * cf p i := by
  unfold smul cf
  rw [List.getD_eq_getElem?_getD, List.getD_eq_getElem?_getD, List.getElem?_map]
  cases p[i]? with
  | none => exact (mul_zero c).symm
  | some a => rfl
theorem ev_smul (c : F) (p : Poly) (x : F) : ev (smul c p) x = c * ev p x := by
  induction p with
  | nil => exact (mul_zero c).symm
  | cons a p ih => simp only [smul, List.map_cons, ev] at ih ⊢; rw [ih, mul_add]; ac_rfl
def mulP : Poly → Poly → Poly
  | [], _ => []
  | a :: p, q => addP (smul a q) (0 :: mulP p q)
theorem ev_mul (p q : Poly) (x : F) : ev (mulP p q) x = ev p x * ev q x := by
  induction p with
  | nil => exact (zero_mul _).symm
  | cons a p ih => rw [mulP, ev_add, ev_smul, ev, ev, ih, zero_add, add_mul]; ac_rfl
/-- The sum of f 0 .. f (n - 1). -/
def sn (f : Nat → F) : Nat → F
  | 0 => 0
  | n + 1 => sn f n + f n
theorem sn_zero {f : Nat → F} {n : Nat} (h : ∀ k, k < n → f k = 0) : sn f n = 0 := by
  induction n with
  | zero => rfl
  | succ n ih => rw [sn, ih (fun k hk => h k (by omega)), h n (by omega), add_zero]
theorem sn_congr {f g : Nat → F} {n : Nat} (h : ∀ k, k < n → f k = g k) : sn f n = sn g n := by
  induction n with
  | zero => rfl
  | succ n ih => rw [sn, sn, ih (fun k hk => h k (by omega)), h n (by omega)]
theorem sn_first (f : Nat → F) (n : Nat) : sn f (n + 1) = f 0 + sn (fun k => f (k + 1)) n := by
  induction n with
  | zero => simp [sn, zero_add, add_zero]
  | succ n ih => rw [sn, ih, sn, add_assoc]
theorem sn_one {f : Nat → F} {n j : Nat} (hj : j < n) (h : ∀ k, k < n → k ≠ j → f k = 0) : sn f n = f j := by
  induction n with
  | zero => omega
  | succ n ih =>
    rw [sn]
    by_cases e : j = n
    · subst e
      rw [sn_zero (fun k hk => h k (by omega) (by omega)), zero_add]
    · rw [ih (by omega) (fun k hk => h k (by omega)), h n (by omega) (by omega), add_zero]
theorem sn_add (f g : Nat → F) (n : Nat) : sn (fun k => f k + g k) n = sn f n + sn g n := by
  induction n with
  | zero => exact (add_zero 0).symm
  | succ n ih => rw [sn, sn, sn, ih]; ac_rfl
theorem cf_mul (p q : Poly) (n : Nat) : cf (mulP p q) n = sn (fun k => cf p k * cf q (n - k)) (n + 1) := by
  induction p generalizing n with
  | nil => exact (sn_zero (fun k _ => by rw [cf_nil, zero_mul])).symm
  | cons a p ih =>
    rw [mulP, cf_add, cf_smul]
    rw [sn_first]
    congr 1
    cases n with
    | zero => rfl
    | succ n =>
      rw [cf_succ, ih]
      refine sn_congr (fun k hk => ?_)
      rw [cf_succ, Nat.add_sub_add_right]
theorem mul_top {p q : Poly} {m n : Nat} (hp : ∀ i, m < i → cf p i = 0) (hq : ∀ i, n < i → cf q i = 0) : cf (mulP p q) (m + n) = cf p m * cf q n := by
  rw [cf_mul, sn_one (j := m) (by omega)]
  · rw [show m + n - m = n by omega]
  · intro k hk hne
    rcases Nat.lt_or_ge m k with h | h
    · rw [hp k h, zero_mul]
    · rw [hq (m + n - k) (by omega), mul_zero]
theorem mul_above {p q : Poly} {m n i : Nat} (hp : ∀ i, m < i → cf p i = 0) (hq : ∀ i, n < i → cf q i = 0) (hi : m + n < i) : cf (mulP p q) i = 0 := by
  rw [cf_mul]
  refine sn_zero (fun k hk => ?_)
  rcases Nat.lt_or_ge m k with h | h
  · rw [hp k h, zero_mul]
  · rw [hq (i - k) (by omega), mul_zero]
theorem dg_mul {p q : Poly} (hp : 0 < dg p) (hq : 0 < dg q) : dg (mulP p q) = dg p + dg q - 1 := by
  have h1 : ∀ i, dg p - 1 < i → cf p i = 0 := fun i hi => dg_ge (by omega)
  have h2 : ∀ i, dg q - 1 < i → cf q i = 0 := fun i hi => dg_ge (by omega)
  have := dg_eq (p := mulP p q) (n := (dg p - 1) + (dg q - 1)) (fun i hi => mul_above h1 h2 hi) (by
    rw [mul_top h1 h2]
    intro h
    rcases mul_eq_zero h with h | h
    · exact dg_top hp h
    · exact dg_top hq h)
  omega
theorem mul_nil {p q : Poly} (h : Eqv p [] ∨ Eqv q []) : Eqv (mulP p q) [] := fun i => by
  rw [cf_mul, cf_nil]
  refine sn_zero (fun k _ => ?_)
  rcases h with h | h
  · rw [h k, cf_nil, zero_mul]
  · rw [h (i - k), cf_nil, mul_zero]
theorem mul_eqv {p p' q q' : Poly} (h : Eqv p p') (k : Eqv q q') : Eqv (mulP p q) (mulP p' q') := fun i => by
  rw [cf_mul, cf_mul]
  exact sn_congr fun j _ => by rw [h j, k (i - j)]
theorem add_eqv {p p' q q' : Poly} (h : Eqv p p') (k : Eqv q q') : Eqv (addP p q) (addP p' q') := fun i => by
  rw [cf_add, cf_add, h i, k i]
theorem dg_add_le {p q : Poly} {n : Nat} (hp : dg p ≤ n) (hq : dg q ≤ n) : dg (addP p q) ≤ n :=
  dg_le fun i hi => by rw [cf_add, dg_ge (by omega), dg_ge (by omega), add_zero]
theorem add_mulP (p p' q : Poly) : Eqv (mulP (addP p p') q) (addP (mulP p q) (mulP p' q)) := fun i => by
  rw [cf_mul, cf_add, cf_mul, cf_mul, ← sn_add]
  exact sn_congr fun k _ => by rw [cf_add, add_mul]
/-- Division has one answer. -/
theorem div_unique {q d d' r r' : Poly} (hr : dg r < dg q) (hr' : dg r' < dg q) (h : Eqv (addP (mulP d q) r) (addP (mulP d' q) r')) : Eqv d d' ∧ Eqv r r' := by
  have hs : Eqv (mulP (addP d d') q) (addP r r') := fun i => by
    have := h i
    rw [cf_add, cf_add] at this
    rw [add_mulP, cf_add, cf_add]
    refine eq_of_add ?_
    calc cf (mulP d q) i + cf (mulP d' q) i + (cf r i + cf r' i) = (cf (mulP d q) i + cf r i) + (cf (mulP d' q) i + cf r' i) := by ac_rfl
      _ = 0 := by rw [this, add_self]
  have hd0 : dg (addP d d') = 0 := by
    rcases Nat.eq_zero_or_pos (dg (addP d d')) with h0 | h0
    · exact h0
    · have h1 := dg_mul h0 (show 0 < dg q by omega)
      have h2 := dg_eqv hs
      have h3 := dg_add_le (p := r) (q := r') (n := dg q - 1) (by omega) (by omega)
      omega
  have e1 : Eqv d d' := fun i => by
    have := dg_zero hd0 i
    rw [cf_add] at this
    exact eq_of_add this
  refine ⟨e1, fun i => ?_⟩
  have h2 := hs i
  rw [mul_nil (.inl (dg_zero hd0)) i, cf_nil, cf_add] at h2
  exact eq_of_add h2.symm

/-! ### roots -/
/-- What is left of a polynomial behind division by z - r, from the end. -/
def sd (r : F) : Poly → Poly × F
  | [] => ([], 0)
  | a :: p => ((sd r p).2 :: (sd r p).1, a + r * (sd r p).2)
theorem sd_rest (r : F) (p : Poly) : (sd r p).2 = ev p r := by
  induction p with
  | nil => rfl
  | cons a p ih => rw [sd, ev, ih]
theorem sd_ev (r x : F) (p : Poly) : ev p x = (x + r) * ev (sd r p).1 x + (sd r p).2 := by
  induction p with
  | nil => simp only [sd, ev, mul_zero, add_zero]
  | cons a p ih =>
    simp only [sd, ev]
    rw [ih]
    generalize ev (sd r p).1 x = d
    generalize (sd r p).2 = c
    simp only [mul_add, add_mul]
    calc a + (x * (x * d) + x * (r * d) + x * c) = a + (x * (x * d) + x * (r * d) + x * c) + 0 := (add_zero _).symm
      _ = a + (x * (x * d) + x * (r * d) + x * c) + (r * c + r * c) := by rw [add_self]
      _ = x * c + r * c + (x * (x * d) + r * (x * d)) + (a + r * c) := by
        rw [show x * (r * d) = r * (x * d) by ac_rfl]; ac_rfl
theorem sd_cf (r : F) (p : Poly) : Eqv p (addP (mulP [r, 1] (sd r p).1) [(sd r p).2]) := by
  have hm : ∀ d : Poly, Eqv (mulP [r, 1] d) (addP (smul r d) (0 :: d)) := fun d i => by
    rw [mulP, cf_add, cf_add]
    congr 1
    cases i with
    | zero => rfl
    | succ i =>
      rw [cf_succ, cf_succ, mulP, cf_add, cf_smul, one_mul]
      cases i with
      | zero => exact add_zero _
      | succ i => exact add_zero _
  induction p with
  | nil =>
    intro i
    rw [cf_add, hm]
    rw [cf_add, cf_smul]
    simp only [sd, cf_nil, mul_zero]
    rcases i with _ | _ | i
    · decide
    · decide
    · show (0 : F) = 0 + 0 + 0
      decide
  | cons a p ih =>
    intro i
    rw [cf_add, hm, cf_add, cf_smul]
    simp only [sd]
    cases i with
    | zero =>
      simp only [cf_zero]
      rw [add_zero]
      calc a = a + 0 := (add_zero a).symm
        _ = a + (r * (sd r p).2 + r * (sd r p).2) := by rw [add_self]
        _ = r * (sd r p).2 + (a + r * (sd r p).2) := by ac_rfl
    | succ i =>
      rw [cf_succ, cf_succ, cf_succ, cf_succ, cf_nil, add_zero, ih i, cf_add, hm, cf_add, cf_smul]
      cases i with
      | zero => rw [cf_zero, cf_zero, cf_zero, add_zero]
      | succ i => rw [cf_succ, cf_succ, cf_succ, cf_nil, add_zero]
theorem sd_dg (r : F) {p : Poly} {n : Nat} (h : dg p ≤ n + 1) : dg (sd r p).1 ≤ n := by
  rcases Nat.eq_zero_or_pos (dg (sd r p).1) with h0 | h0
  · omega
  · have hq : dg [r, 1] = 2 := dg_eq (n := 1) (fun i hi => cf_ge (by simp; omega)) (show (1 : F) ≠ 0 by decide)
    have h1 := dg_mul (p := [r, 1]) (q := (sd r p).1) (by omega) h0
    have h2 := dg_eqv (sd_cf r p)
    have h3 : dg (addP (mulP [r, 1] (sd r p).1) [(sd r p).2]) = dg (sd r p).1 + 1 := by
      refine dg_eq (n := dg (sd r p).1) (fun i hi => ?_) ?_
      · rw [cf_add, dg_ge (by omega), cf_ge (by simp; omega), add_zero]
      · rw [cf_add, cf_ge (p := [(sd r p).2]) (by simp; omega), add_zero]
        have := dg_top (p := mulP [r, 1] (sd r p).1) (by omega)
        rwa [show dg (mulP [r, 1] (sd r p).1) - 1 = dg (sd r p).1 by omega] at this
    omega
/-- A polynomial with as many roots as it may have coefficients is 0. -/
theorem roots_many : ∀ (n : Nat) (p : Poly) (l : List F), dg p ≤ n → l.Nodup → (∀ x ∈ l, ev p x = 0) → n ≤ l.length → Eqv p []
  | 0, p, _, hd, _, _, _ => dg_zero (by omega)
  | n + 1, p, [], _, _, _, hl => by simp at hl
  | n + 1, p, r :: l, hd, hn, hr, hl => by
    have h0 : (sd r p).2 = 0 := by rw [sd_rest]; exact hr r (by simp)
    have hz := roots_many n (sd r p).1 l (sd_dg r hd) (List.nodup_cons.1 hn).2 (fun x hx => by
      have h1 := hr x (by simp [hx])
      rw [sd_ev r x p, h0, add_zero] at h1
      rcases mul_eq_zero h1 with h1 | h1
      · have := eq_of_add h1
        subst this
        exact absurd hx (List.nodup_cons.1 hn).1
      · exact h1) (by simpa using hl)
    intro i
    rw [sd_cf r p i, cf_add, h0, mul_nil (.inr hz) i, cf_nil, zero_add]
    rcases i with _ | i
    · rfl
    · rfl
/-- Two polynomials of n coefficients at most that agree at n places are the same. -/
theorem agree {p q : Poly} {n : Nat} (hp : dg p ≤ n) (hq : dg q ≤ n) (l : List F) (hl : l.Nodup) (hn : n ≤ l.length) (h : ∀ x ∈ l, ev p x = ev q x) : Eqv p q := fun i => by
  have := roots_many n (addP p q) l (dg_add_le hp hq) hl (fun x hx => by rw [ev_add, h x hx, add_self]) hn i
  rw [cf_add] at this
  exact eq_of_add this
end Go.Proofs.YtehgfpfmpkmdmaaDoor.Gf
