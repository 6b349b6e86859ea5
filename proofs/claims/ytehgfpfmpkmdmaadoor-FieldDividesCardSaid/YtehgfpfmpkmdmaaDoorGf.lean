/- The field of 64 elements on natural numbers below 64: sums are exclusive ors, products go by a table of the powers of 2. Plain facts, no program. -/
namespace Go.Proofs.YtehgfpfmpkmdmaaDoor.Gf

def pw : List Nat := [1, 2, 4, 8, 16, 32, 3, 6, 12, 24, 48, 35, 5, 10, 20, 40, 19, 38, 15, 30, 60, 59, 53, 41, 17, 34, 7, 14, 28, 56, 51, 37, 9, 18, 36, 11, 22, 44, 27, 54, 47, 29, 58, 55, 45, 25, 50, 39, 13, 26, 52, 43, 21, 42, 23, 46, 31, 62, 63, 61, 57, 49, 33]
def ex (n : Nat) : Nat := pw.getD (n % 63) 0
def lg (a : Nat) : Nat := pw.idxOf a
def ml (a b : Nat) : Nat := if a = 0 ∨ b = 0 then 0 else ex (lg a + lg b)
def iv (a : Nat) : Nat := ex (63 - lg a)
def dbl (a : Nat) : Nat := if a < 32 then 2 * a else (2 * a) ^^^ 67

theorem ex_mod (n : Nat) : ex (n % 63) = ex n := by unfold ex; rw [Nat.mod_mod]
theorem ex_add63 (n : Nat) : ex (n + 63) = ex n := by unfold ex; rw [Nat.add_mod_right]
theorem tab_ex : ∀ n, n < 63 → (pw.getD n 0 ≠ 0 ∧ pw.getD n 0 < 64 ∧ pw.idxOf (pw.getD n 0) = n) := by decide +kernel
theorem tab_lg : ∀ a, a < 64 → a ≠ 0 → (pw.idxOf a < 63 ∧ pw.getD (pw.idxOf a) 0 = a) := by decide +kernel
theorem ex_ne (n : Nat) : ex n ≠ 0 := (tab_ex _ (Nat.mod_lt _ (by decide))).1
theorem ex_lt (n : Nat) : ex n < 64 := (tab_ex _ (Nat.mod_lt _ (by decide))).2.1
theorem lg_ex (n : Nat) : lg (ex n) = n % 63 := (tab_ex _ (Nat.mod_lt _ (by decide))).2.2
theorem lg_lt {a : Nat} (h : a < 64) (h0 : a ≠ 0) : lg a < 63 := (tab_lg a h h0).1
theorem ex_lg {a : Nat} (h : a < 64) (h0 : a ≠ 0) : ex (lg a) = a := by
  have := tab_lg a h h0
  unfold ex lg
  rw [Nat.mod_eq_of_lt this.1]
  exact this.2
theorem ex_inj {m n : Nat} (h : ex m = ex n) : m % 63 = n % 63 := by rw [← lg_ex, h, lg_ex]

theorem ml_zero_left (b : Nat) : ml 0 b = 0 := by simp [ml]
theorem ml_zero_right (a : Nat) : ml a 0 = 0 := by simp [ml]
theorem ml_lt (a b : Nat) : ml a b < 64 := by
  unfold ml
  split
  · decide
  · exact ex_lt _
theorem ml_comm (a b : Nat) : ml a b = ml b a := by
  unfold ml
  rw [Nat.add_comm]
  simp only [Or.comm]
theorem ml_ne {a b : Nat} (ha : a ≠ 0) (hb : b ≠ 0) : ml a b ≠ 0 := by
  unfold ml
  rw [if_neg (by simp [ha, hb])]
  exact ex_ne _
theorem ml_eq_zero {a b : Nat} (h : ml a b = 0) : a = 0 ∨ b = 0 := by
  rcases Nat.eq_zero_or_pos a with h1 | h1
  · exact .inl h1
  · rcases Nat.eq_zero_or_pos b with h2 | h2
    · exact .inr h2
    · exact absurd h (ml_ne (by omega) (by omega))
theorem ml_pos {a b : Nat} (ha : a ≠ 0) (hb : b ≠ 0) : ml a b = ex (lg a + lg b) := by
  unfold ml
  rw [if_neg (by simp [ha, hb])]
theorem ml_assoc (a b c : Nat) : ml (ml a b) c = ml a (ml b c) := by
  by_cases ha : a = 0
  · subst ha; simp [ml_zero_left]
  by_cases hb : b = 0
  · subst hb; simp [ml_zero_left, ml_zero_right]
  by_cases hc : c = 0
  · subst hc; simp [ml_zero_right]
  rw [ml_pos (ml_ne ha hb) hc, ml_pos ha (ml_ne hb hc), ml_pos ha hb, ml_pos hb hc, lg_ex, lg_ex]
  unfold ex
  congr 1
  omega
theorem ml_one {a : Nat} (h : a < 64) : ml a 1 = a := by
  by_cases ha : a = 0
  · subst ha; decide
  · rw [ml_pos ha (by decide)]
    have : lg 1 = 0 := by decide
    rw [this, Nat.add_zero, ex_lg h ha]
theorem one_ml {a : Nat} (h : a < 64) : ml 1 a = a := by rw [ml_comm, ml_one h]
theorem iv_lt (a : Nat) : iv a < 64 := ex_lt _
theorem iv_ne (a : Nat) : iv a ≠ 0 := ex_ne _
theorem ml_iv {a : Nat} (h : a < 64) (h0 : a ≠ 0) : ml a (iv a) = 1 := by
  unfold iv
  rw [ml_pos h0 (ex_ne _), lg_ex]
  have := lg_lt h h0
  unfold ex
  rw [show (lg a + (63 - lg a) % 63) % 63 = 0 by omega]
  rfl
theorem iv_ml {a : Nat} (h : a < 64) (h0 : a ≠ 0) : ml (iv a) a = 1 := by rw [ml_comm, ml_iv h h0]

/-! sums -/
theorem xor_lt {a b : Nat} (ha : a < 64) (hb : b < 64) : a ^^^ b < 64 := Nat.xor_lt_two_pow (n := 6) ha hb
theorem dbl_is : ∀ a, a < 64 → ml 2 a = dbl a := by decide +kernel
theorem dbl_xor : ∀ a, a < 64 → ∀ b, b < 64 → dbl (a ^^^ b) = dbl a ^^^ dbl b := by decide +kernel
theorem two_xor {a b : Nat} (ha : a < 64) (hb : b < 64) : ml 2 (a ^^^ b) = ml 2 a ^^^ ml 2 b := by
  rw [dbl_is _ (xor_lt ha hb), dbl_is a ha, dbl_is b hb, dbl_xor a ha b hb]
theorem ex_succ (n : Nat) : ex (n + 1) = ml 2 (ex n) := by
  rw [ml_pos (by decide) (ex_ne n), lg_ex]
  have : lg 2 = 1 := by decide
  rw [this]
  unfold ex
  congr 1
  omega
theorem ex_distrib (n : Nat) {b c : Nat} (hb : b < 64) (hc : c < 64) : ml (ex n) (b ^^^ c) = ml (ex n) b ^^^ ml (ex n) c := by
  induction n with
  | zero =>
    have : ex 0 = 1 := by decide
    rw [this, one_ml hb, one_ml hc, one_ml (xor_lt hb hc)]
  | succ n ih => rw [ex_succ, ml_assoc, ml_assoc, ml_assoc, ih, two_xor (ml_lt _ _) (ml_lt _ _)]
theorem ml_xor {a b c : Nat} (ha : a < 64) (hb : b < 64) (hc : c < 64) : ml a (b ^^^ c) = ml a b ^^^ ml a c := by
  by_cases h0 : a = 0
  · subst h0; simp [ml_zero_left]
  · rw [← ex_lg ha h0]; exact ex_distrib _ hb hc
theorem xor_ml {a b c : Nat} (ha : a < 64) (hb : b < 64) (hc : c < 64) : ml (b ^^^ c) a = ml b a ^^^ ml c a := by
  rw [ml_comm, ml_xor ha hb hc, ml_comm a b, ml_comm a c]

end Go.Proofs.YtehgfpfmpkmdmaaDoor.Gf
