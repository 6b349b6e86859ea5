/- The program's exported functions on polynomials of at most 128 coefficients. Plain Lean. -/
import Derived.Test.YtehgfpfmpkmdmaaDoorFd
import Derived.Test.YtehgfpfmpkmdmaaDoorPrint4
import Derived.Test.YtehgfpfmpkmdmaaDoorPrint6
import Derived.Test.YtehgfpfmpkmdmaaDoorPrint13
import Derived.Test.YtehgfpfmpkmdmaaDoorPrint14
import Derived.Test.YtehgfpfmpkmdmaaDoorPrint15
import Derived.Test.YtehgfpfmpkmdmaaDoorPrint35
namespace Go.Proofs.YtehgfpfmpkmdmaaDoor.Print
open Go.RowKit Go.Proofs.YtehgfpfmpkmdmaaDoorW.PrintWords Go.Proofs.YtehgfpfmpkmdmaaDoorW.PrintLast Go.Proofs.YtehgfpfmpkmdmaaDoorW.PrintMore
open Go.Proofs.YtehgfpfmpkmdmaaDoor.Gf

theorem Degree_f (p : Poly) (hp : p.length ≤ 128) (k : Nat) (hk : 1000 ≤ k) : field_Degree.f k (IL p) = some ((dg p : Int) - 1, 0) := by
  have := dg_len p
  unfold field_Degree.f
  rw [check_one p hp, Option.bind_some, if_pos rfl, trim_f p (by omega) k (by omega), Option.bind_some, IL_len, len_dg, w64 (by omega) (by omega)]
theorem Trim_f (p : Poly) (hp : p.length ≤ 128) (k : Nat) (hk : 1000 ≤ k) : field_Trim.f k (IL p) = some (IL (tr p), 0) := by
  unfold field_Trim.f
  rw [check_one p hp, Option.bind_some, if_pos rfl, trim_f p (by omega) k (by omega), Option.bind_some]
theorem Sum_f (p q : Poly) (hp : p.length ≤ 128) (hq : q.length ≤ 128) : field_Sum.f (IL p) (IL q) = some (IL (tr (addP p q)), 0) := by
  unfold field_Sum.f
  rw [check_two p q hp hq, Option.bind_some, if_pos rfl, sum_f p q (by omega) (by omega), Option.bind_some]
theorem Product_f (p q : Poly) (hp : p.length ≤ 128) (hq : q.length ≤ 128) (h : dg (mulP p q) ≤ 128) : field_Product.f (IL p) (IL q) = some (IL (tr (mulP p q)), 0) := by
  unfold field_Product.f
  rw [check_two p q hp hq, Option.bind_some, if_pos rfl, product_f p q (by omega) (by omega), Option.bind_some, IL_len, len_dg, if_neg (by omega)]
theorem Divide_f (p q : Poly) (hp : p.length ≤ 128) (hq : q.length ≤ 128) (hq0 : 0 < dg q) (k : Nat) (hk : 600000 ≤ k) :
    ∃ d r : Poly, field_Divide.f k (IL p) (IL q) = some (IL d, IL r, 0) ∧ tr d = d ∧ tr r = r ∧ dg r < dg q ∧ Eqv p (addP (mulP d q) r) := by
  obtain ⟨d, r, h, h1⟩ := divide_f p q (by omega) (by omega) hq0 k hk
  refine ⟨d, r, ?_, h1⟩
  unfold field_Divide.f
  rw [check_two p q hp hq, Option.bind_some, if_pos rfl, trim_f q (by omega) k (by omega), Option.bind_some, IL_len, len_dg, if_neg (by omega), h, Option.bind_some]
theorem check_eval (p : Poly) (x : F) (h : p.length ≤ 128) : field_check.f [IL p, [ofF x]] = some 0 := check_two p [x] h (by simp)
theorem Eval_f (p : Poly) (hp : p.length ≤ 128) (x : F) : field_Eval.f (IL p) (ofF x) = some (ofF (ev p x), 0) := by
  unfold field_Eval.f
  rw [check_eval p x hp, Option.bind_some, if_pos rfl, eval_f, Option.bind_some]
theorem len_of_tr {p : Poly} (h : tr p = p) : p.length = dg p := by rw [← len_dg, h]
/-- What a division's quotient and rest may have. -/
theorem div_bounds {p q d r : Poly} (hq0 : 0 < dg q) (hr : dg r < dg q) (h : Eqv p (addP (mulP d q) r)) : dg d ≤ dg p ∧ dg (mulP d q) ≤ dg p := by
  rcases Nat.eq_zero_or_pos (dg d) with h0 | h0
  · have : dg (mulP d q) = 0 := by
      have := dg_eqv (mul_nil (q := q) (.inl (dg_zero h0)))
      rw [this]
      rfl
    omega
  · have h1 := dg_mul h0 hq0
    have h2 := dg_eqv h
    rw [dg_add_lt (by omega)] at h2
    omega
theorem mul_dg_le (p q : Poly) : dg (mulP p q) ≤ p.length + q.length := by
  have lp := dg_len p
  have lq := dg_len q
  rcases Nat.eq_zero_or_pos (dg p) with h | h
  · have := dg_eqv (mul_nil (q := q) (.inl (dg_zero h)))
    rw [this]
    exact Nat.zero_le _
  · rcases Nat.eq_zero_or_pos (dg q) with h' | h'
    · have := dg_eqv (mul_nil (p := p) (.inr (dg_zero h')))
      rw [this]
      exact Nat.zero_le _
    · rw [dg_mul h h']
      omega
end Go.Proofs.YtehgfpfmpkmdmaaDoor.Print
