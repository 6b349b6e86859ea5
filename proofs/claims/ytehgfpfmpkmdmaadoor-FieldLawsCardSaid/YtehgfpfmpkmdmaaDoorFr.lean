/- The reference's field: Mul is the field's product (by the kernel's reckoning), Inv its inverse, Pow its powers, Log the number of which 2 to the power is an element. Plain Lean. -/
import Derived.Test.YtehgfpfmpkmdmaaDoorFi
import Derived.Test.YtehgfpfmpkmdmaaDoorPrint23
import Derived.Test.YtehgfpfmpkmdmaaDoorPrint25
import Derived.Test.YtehgfpfmpkmdmaaDoorPrint32
import Derived.Test.YtehgfpfmpkmdmaaDoorPrint33
namespace Go.Proofs.YtehgfpfmpkmdmaaDoor.Print
open Go.RowKit Go.Proofs.YtehgfpfmpkmdmaaDoorW.PrintWords Go.Proofs.YtehgfpfmpkmdmaaDoorW.PrintLast Go.Proofs.YtehgfpfmpkmdmaaDoorW.PrintMore
open Go.Proofs.YtehgfpfmpkmdmaaDoor.Gf
theorem refMul_all : (List.range 64).all (fun a => (List.range 64).all fun b => letterbagref18_Mul.f 20 (a : Int) (b : Int) == some ((ml a b : Nat) : Int)) = true := by decide +kernel
theorem refMul_f (a b : F) (k : Nat) (hk : 20 ≤ k) : letterbagref18_Mul.f k (ofF a) (ofF b) = some (ofF (a * b)) := by
  refine at_rounds (g := fun k => letterbagref18_Mul.f k (ofF a) (ofF b)) (fun k => letterbagref18_Mul.mono _ _ k) hk ?_
  have h1 := List.all_eq_true.1 refMul_all a.v (by simpa using a.h)
  have h2 := List.all_eq_true.1 h1 b.v (by simpa using b.h)
  simpa [ofF, mul_v] using h2
/-- Elements, by their numbers. -/
def el (n : Nat) : F := ⟨n % 64, Nat.mod_lt _ (by decide)⟩
theorem ofF_el {n : Nat} (h : n < 64) : ofF (el n) = (n : Int) := by simp [ofF, el, Nat.mod_eq_of_lt h]
theorem el_v (a : F) : el a.v = a := F.ext (Nat.mod_eq_of_lt a.h)
theorem mul_eq_one {a x : F} (h : a * x = 1) : x = Gf.inv a := by
  have ha : a ≠ 0 := fun e => by rw [e, zero_mul] at h; exact absurd h (by decide)
  exact mul_cancel ha (h.trans (mul_inv ha).symm)
theorem refInv_l (a : F) (ha : a ≠ 0) : ∀ (d n k : Nat), n + d = (Gf.inv a).v → d + 30 ≤ k → letterbagref18_Inv.l0 k (ofF a) (n : Int) = some (ofF (Gf.inv a))
  | 0, n, k, h, hk => by
    obtain ⟨k, rfl⟩ : ∃ m, k = m + 1 := ⟨k - 1, by omega⟩
    have hi := (Gf.inv a).h
    have e : ofF (el n) = (n : Int) := ofF_el (by omega)
    have e2 : el n = Gf.inv a := by rw [show n = (Gf.inv a).v by omega, el_v]
    rw [letterbagref18_Inv.l0, if_pos (by omega), ← e, refMul_f a (el n) k (by omega), Option.bind_some, e2, mul_inv ha, if_pos (by rfl)]
  | d + 1, n, k, h, hk => by
    obtain ⟨k, rfl⟩ : ∃ m, k = m + 1 := ⟨k - 1, by omega⟩
    have hi := (Gf.inv a).h
    have e : ofF (el n) = (n : Int) := ofF_el (by omega)
    rw [letterbagref18_Inv.l0, if_pos (by omega), ← e, refMul_f a (el n) k (by omega), Option.bind_some, if_neg, e, show (((n : Int) + 1) % 256) = ((n + 1 : Nat) : Int) by omega]
    · exact refInv_l a ha d (n + 1) k (by omega) (by omega)
    · intro he
      have h1 : a * el n = 1 := ofF_inj (he.trans ofF_one.symm)
      have h2 := congrArg F.v (mul_eq_one h1)
      simp only [el] at h2
      omega
theorem inv_ne (a : F) : (Gf.inv a).v ≠ 0 := iv_ne a.v
theorem refInv_f (a : F) (ha : a ≠ 0) (k : Nat) (hk : 100 ≤ k) : letterbagref18_Inv.f k (ofF a) = some (ofF (Gf.inv a)) := by
  have h1 := inv_ne a
  have h2 := (Gf.inv a).h
  unfold letterbagref18_Inv.f
  exact refInv_l a ha ((Gf.inv a).v - 1) 1 k (by omega) (by omega)
/-! ### powers -/
def fpow (a : F) : Nat → F
  | 0 => 1
  | n + 1 => fpow a n * a
theorem refPow_l (a : F) (n : Nat) (hn : n ≤ 1000) : ∀ (d i k : Nat), i + d = n → d + 30 ≤ k → letterbagref18_Pow.l0 k (ofF a) (n : Int) (ofF (fpow a i)) (i : Int) = some (ofF (fpow a n))
  | 0, i, k, h, hk => by
    obtain ⟨k, rfl⟩ : ∃ m, k = m + 1 := ⟨k - 1, by omega⟩
    obtain rfl : i = n := by omega
    rw [letterbagref18_Pow.l0, if_neg (by omega)]
  | d + 1, i, k, h, hk => by
    obtain ⟨k, rfl⟩ : ∃ m, k = m + 1 := ⟨k - 1, by omega⟩
    rw [letterbagref18_Pow.l0, if_pos (by omega), refMul_f _ _ k (by omega), Option.bind_some, w64 (by omega) (by omega)]
    exact refPow_l a n hn d (i + 1) k (by omega) (by omega)
theorem refPow_f (a : F) (n : Nat) (hn : n ≤ 126) (k : Nat) (hk : 200 ≤ k) : letterbagref18_Pow.f k (ofF a) (n : Int) = some (ofF (fpow a n)) := by
  obtain ⟨k, rfl⟩ : ∃ m, k = m + 1 := ⟨k - 1, by omega⟩
  unfold letterbagref18_Pow.f
  rw [if_neg (by omega), letterbagref18_Pow.j0]
  exact refPow_l a n (by omega) n 0 k (by omega) (by omega)
theorem ex_addF (m n : Nat) : ml (ex m) (ex n) = ex (m + n) := by
  rw [ml_pos (ex_ne m) (ex_ne n), lg_ex, lg_ex]
  unfold ex
  congr 1
  omega
theorem fpow_v {a : F} (ha : a ≠ 0) (n : Nat) : (fpow a n).v = ex (lg a.v * n) := by
  induction n with
  | zero => rfl
  | succ n ih =>
    rw [fpow, mul_v, ih, Nat.mul_succ]
    conv => lhs; rw [← ex_lg a.h (ne_v ha)]
    rw [ex_addF, lg_ex, Nat.mod_eq_of_lt (lg_lt a.h (ne_v ha))]
theorem two_ne : (el 2) ≠ 0 := by decide
theorem fpow_two (n : Nat) : (fpow (el 2) n).v = ex n := by
  rw [fpow_v two_ne, show lg (el 2).v = 1 by decide, Nat.one_mul]
theorem refLog_l (a : F) (ha : a ≠ 0) : ∀ (d n k : Nat), n + d = lg a.v → d + 300 ≤ k → letterbagref18_Log.l0 k (ofF a) (n : Int) = some (lg a.v : Int)
  | 0, n, k, h, hk => by
    obtain ⟨k, rfl⟩ : ∃ m, k = m + 1 := ⟨k - 1, by omega⟩
    have hl := lg_lt a.h (ne_v ha)
    have e : fpow (el 2) n = a := F.ext (by rw [fpow_two, show n = lg a.v by omega]; exact ex_lg a.h (ne_v ha))
    rw [letterbagref18_Log.l0, show (2 : Int) = ofF (el 2) from rfl, refPow_f (el 2) n (by omega) k (by omega), Option.bind_some, e, if_pos rfl, show n = lg a.v by omega]
  | d + 1, n, k, h, hk => by
    obtain ⟨k, rfl⟩ : ∃ m, k = m + 1 := ⟨k - 1, by omega⟩
    have hl := lg_lt a.h (ne_v ha)
    rw [letterbagref18_Log.l0, show (2 : Int) = ofF (el 2) from rfl, refPow_f (el 2) n (by omega) k (by omega), Option.bind_some, if_neg, w64 (by omega) (by omega)]
    · exact refLog_l a ha d (n + 1) k (by omega) (by omega)
    · intro he
      have h1 := congrArg F.v (ofF_inj he)
      rw [fpow_two] at h1
      have h2 := lg_ex n
      rw [h1] at h2
      omega
theorem refLog_f (a : F) (ha : a ≠ 0) (k : Nat) (hk : 1000 ≤ k) : letterbagref18_Log.f k (ofF a) = some (lg a.v : Int) := by
  have hl := lg_lt a.h (ne_v ha)
  unfold letterbagref18_Log.f
  exact refLog_l a ha (lg a.v) 0 k (by omega) (by omega)
end Go.Proofs.YtehgfpfmpkmdmaaDoor.Print
