/- FieldDivides' plain law: division leaves less than the divisor, quotient times divisor and the rest are the polynomial again, and a product divided by a factor leaves the other factor. Plain Lean. -/
import Derived.Test.YtehgfpfmpkmdmaaDoorFx
import Derived.Test.YtehgfpfmpkmdmaaDoorPrint30
namespace Go.Proofs.YtehgfpfmpkmdmaaDoor.Print
open Go.RowKit Go.Proofs.YtehgfpfmpkmdmaaDoorW.PrintWords Go.Proofs.YtehgfpfmpkmdmaaDoorW.PrintLast Go.Proofs.YtehgfpfmpkmdmaaDoorW.PrintMore
open Go.Proofs.YtehgfpfmpkmdmaaDoor.Gf

theorem u8_nonneg {l : List Int} (h : ∀ x ∈ l, (Lit.int .u8 x).wf = true) : ∀ x ∈ l, 0 ≤ x := fun x hx => by
  have := h x hx
  simp [Lit.wf, IntKind.min, IntKind.max, IntKind.signed, IntKind.bits] at this
  omega
theorem fieldDivides_pure : letterbaglaw18_FieldDivides.Pure := by
  intro l0 l1 _ _ w0 _ _ w1
  refine ⟨1000001, ?_⟩
  obtain ⟨p, hp, hpl⟩ := elements_f l0 (u8_nonneg w0) 60 (by omega) 1000001 (by omega)
  obtain ⟨q, hq, hql⟩ := elements_f l1 (u8_nonneg w1) 60 (by omega) 1000001 (by omega)
  have ha : letterbaglaw18_awake.f = some true := rfl
  have lp := dg_len p
  have lq := dg_len q
  unfold letterbaglaw18_FieldDivides.f
  rw [show (60 : Int) = ((60 : Nat) : Int) from rfl, hp, Option.bind_some, hq, Option.bind_some, Degree_f q (by omega) _ (by omega), Option.bind_some]
  simp only
  rw [if_pos trivial]
  by_cases h0 : dg q = 0
  · rw [if_pos (by omega), ha]
    rfl
  rw [if_neg (by omega)]
  obtain ⟨d, r, hd, htd, htr, hrq, he⟩ := Divide_f p q (by omega) (by omega) (by omega) 1000001 (by omega)
  obtain ⟨b1, b2⟩ := div_bounds (by omega) hrq he
  have ld := len_of_tr htd
  have lr := len_of_tr htr
  have l3 := tr_len (mulP d q)
  have l4 : (tr (mulP d q)).length = dg (mulP d q) := rfl
  rw [hd, Option.bind_some]
  simp only
  rw [Product_f d q (by omega) (by omega) (by omega), Option.bind_some]
  simp only
  rw [Sum_f (tr (mulP d q)) r (by omega) (by omega), Option.bind_some, Trim_f p (by omega) _ (by omega), Option.bind_some, Degree_f r (by omega) _ (by omega), Option.bind_some]
  have e1 : tr (addP (tr (mulP d q)) r) = tr p := tr_canon ((add_eqv (tr_eqv _) (Eqv.refl r)).trans he.symm)
  have lt : (tr p).length = dg p := rfl
  simp only
  rw [if_pos trivial, if_pos trivial, if_pos trivial, if_pos trivial, if_pos trivial, if_neg (by omega), e1, same_f _ (by rw [IL_len]; omega) _ (by rw [IL_len]; omega), Option.bind_some]
  have lm := mul_dg_le p q
  obtain ⟨d2, r2, hd2, htd2, htr2, hrq2, he2⟩ := Divide_f (tr (mulP p q)) q (by have : (tr (mulP p q)).length = dg (mulP p q) := rfl; omega) (by omega) (by omega) 1000000 (by omega)
  obtain ⟨u1, u2⟩ := div_unique (q := q) (d := d2) (d' := p) (r := r2) (r' := []) hrq2 (by show 0 < dg q; omega) (fun i => by
    rw [← he2 i, tr_eqv, cf_add, cf_nil, add_zero])
  have e2 : d2 = tr p := by rw [← htd2]; exact tr_canon u1
  have e3 : r2 = [] := by rw [← htr2]; exact tr_canon u2
  subst e2 e3
  rw [letterbaglaw18_FieldDivides.j0, if_neg (by decide), Product_f p q (by omega) (by omega) (by omega), Option.bind_some]
  simp only
  rw [hd2, Option.bind_some]
  simp only
  rw [if_pos trivial, if_pos trivial, if_pos (by rfl), same_f _ (by rw [IL_len]; omega) _ (by rw [IL_len]; omega), Option.bind_some, if_pos rfl, ha]
  rfl
end Go.Proofs.YtehgfpfmpkmdmaaDoor.Print
