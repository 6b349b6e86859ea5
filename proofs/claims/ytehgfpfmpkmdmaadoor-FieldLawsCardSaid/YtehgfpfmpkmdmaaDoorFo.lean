/- The program's exported functions on elements: Add, Mul, Inv, Pow and Log. Plain Lean. -/
import Derived.Test.YtehgfpfmpkmdmaaDoorFi
import Derived.Test.YtehgfpfmpkmdmaaDoorPrint31
import Derived.Test.YtehgfpfmpkmdmaaDoorPrint8
namespace Go.Proofs.YtehgfpfmpkmdmaaDoor.Print
open Go.RowKit Go.Proofs.YtehgfpfmpkmdmaaDoorW.PrintWords Go.Proofs.YtehgfpfmpkmdmaaDoorW.PrintLast Go.Proofs.YtehgfpfmpkmdmaaDoorW.PrintMore
open Go.Proofs.YtehgfpfmpkmdmaaDoor.Gf
theorem check_pair (a b : F) : field_check.f [[ofF a, ofF b]] = some 0 := check_one [a, b] (by simp)
theorem check_bad {a b : Int} (h : a ≥ 64 ∨ b ≥ 64) : field_check.f [[a, b]] = some 2 := by
  unfold field_check.f
  rcases h with h | h <;> simp [longL, badEl, h]
theorem Add_f (a b : F) : field_Add.f (ofF a) (ofF b) = some (ofF (a + b), 0) := by
  unfold field_Add.f
  rw [check_pair, Option.bind_some, if_pos rfl, bx_ofF]
theorem Add_bad {a b : Int} (h : a ≥ 64 ∨ b ≥ 64) : field_Add.f a b = some (0, 2) := by
  unfold field_Add.f
  rw [check_bad h, Option.bind_some, if_neg (by decide)]
theorem Mul_f (a b : F) : field_Mul.f (ofF a) (ofF b) = some (ofF (a * b), 0) := by
  unfold field_Mul.f
  rw [check_pair, Option.bind_some, if_pos rfl, mul_ofF, Option.bind_some]
theorem Mul_bad {a b : Int} (h : a ≥ 64 ∨ b ≥ 64) : field_Mul.f a b = some (0, 2) := by
  unfold field_Mul.f
  rw [check_bad h, Option.bind_some, if_neg (by decide)]
theorem ofF_lt (a : F) : 0 ≤ ofF a ∧ ofF a < 64 := elB_iff.1 (el_ofF a)
theorem ofF_ne {a : F} (h : a ≠ 0) : ofF a ≠ 0 := fun e => h (ofF_eq_zero.1 e)
theorem Inv_f {a : F} (h : a ≠ 0) : field_Inv.f (ofF a) = some (ofF (Gf.inv a), 0) := by
  have := ofF_lt a
  unfold field_Inv.f
  rw [if_neg (by omega), if_neg (ofF_ne h), inv_ofF h, Option.bind_some]
theorem unit_ofF {a : F} (h : a ≠ 0) : unitB (ofF a) = true := by
  have := ofF_lt a
  have := ofF_ne h
  rw [unitB_iff]
  omega
theorem Log_f {a : F} (h : a ≠ 0) : field_Log.f (ofF a) = some ((lg a.v : Int), 0) := by
  have := ofF_lt a
  unfold field_Log.f
  rw [if_neg (by omega), if_neg (ofF_ne h)]
  unfold field_log.f
  rw [if_pos (unit_ofF h), Option.bind_some]
  simp [ofF]
theorem Pow_f {a : F} (h : a ≠ 0) (n : Int) (h0 : n ≠ 0) (hlo : -9223372036854775808 ≤ n) (hhi : n ≤ 9223372036854775807) : field_Pow.f (ofF a) n = some ((ex (lg a.v * (n % 63).toNat) : Int), 0) := by
  have := ofF_lt a
  unfold field_Pow.f
  rw [if_neg (by omega), if_neg h0, if_neg (ofF_ne h), if_pos ⟨unit_ofF h, hlo, hhi⟩]
  simp [ofF]
theorem Pow_zero (a : F) : field_Pow.f (ofF a) 0 = some (1, 0) := by
  have := ofF_lt a
  unfold field_Pow.f
  rw [if_neg (by omega), if_pos rfl]
end Go.Proofs.YtehgfpfmpkmdmaaDoor.Print
