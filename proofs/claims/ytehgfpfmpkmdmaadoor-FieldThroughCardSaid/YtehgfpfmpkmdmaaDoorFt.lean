/- The program's Through: the polynomial of the least degree through points of different places, an error where a place occurs twice. Plain Lean. -/
import Derived.Test.YtehgfpfmpkmdmaaDoorFx
import Derived.Test.YtehgfpfmpkmdmaaDoorPrint12
namespace Go.Proofs.YtehgfpfmpkmdmaaDoor.Print
open Go.RowKit Go.Proofs.YtehgfpfmpkmdmaaDoorW.PrintWords Go.Proofs.YtehgfpfmpkmdmaaDoorW.PrintLast Go.Proofs.YtehgfpfmpkmdmaaDoorW.PrintMore
open Go.Proofs.YtehgfpfmpkmdmaaDoor.Gf

theorem ev_one (a x : F) : ev [a] x = a := by rw [ev, ev, mul_zero, add_zero]
theorem ev_two (a x : F) : ev [a, 1] x = a + x := by rw [ev, ev_one, mul_one]
theorem dg_two (a : F) : dg [a, 1] = 2 := dg_eq (n := 1) (fun i hi => cf_ge (by simp; omega)) (show (1 : F) ≠ 0 by decide)
theorem cf_mem {X : Poly} {i : Nat} (h : i < X.length) : cf X i ∈ X := by rw [cf_get h]; exact List.getElem_mem h
/-- What stands when i points have been taken in. -/
structure Newton (X Y : Poly) (i : Nat) (out base : Poly) : Prop where
  lo : dg out ≤ i
  lb : dg base = i + 1
  tro : tr out = out
  trb : tr base = base
  val : ∀ j, j < i → ev out (cf X j) = cf Y j
  zero : ∀ j, j < i → ev base (cf X j) = 0
  unit : ∀ x, (∀ j, j < i → x ≠ cf X j) → ev base x ≠ 0
theorem Newton.start (X Y : Poly) : Newton X Y 0 [] [1] :=
  ⟨Nat.le_refl _, by decide, rfl, by decide, fun j h => by omega, fun j h => by omega, fun x _ => by rw [ev_one]; decide⟩
theorem Newton.step {X Y : Poly} {i : Nat} {out base : Poly} (h : Newton X Y i out base) (hx : ∀ j, j < i → cf X i ≠ cf X j) (c : F) (hc : c = (cf Y i + ev out (cf X i)) * Gf.inv (ev base (cf X i))) :
    Newton X Y (i + 1) (tr (addP out (tr (mulP base [c])))) (tr (mulP base [cf X i, 1])) := by
  have hu := h.unit _ hx
  have e1 : ∀ x, ev (tr (addP out (tr (mulP base [c])))) x = ev out x + ev base x * c := fun x => by
    rw [ev_eqv (tr_eqv _), ev_add, ev_eqv (tr_eqv _), ev_mul, ev_one]
  have e2 : ∀ x, ev (tr (mulP base [cf X i, 1])) x = ev base x * (cf X i + x) := fun x => by
    rw [ev_eqv (tr_eqv _), ev_mul, ev_two]
  refine ⟨?_, ?_, tr_tr _, tr_tr _, fun j hj => ?_, fun j hj => ?_, fun x hne => ?_⟩
  · rw [dg_tr]
    refine dg_add_le (Nat.le_trans h.lo (by omega)) ?_
    rw [dg_tr]
    refine dg_le (fun n hn => mul_above (m := i) (n := 0) (fun k hk => dg_ge (by have := h.lb; omega)) (fun k hk => cf_ge (by simp; omega)) (by omega))
  · rw [dg_tr, dg_mul (by have := h.lb; omega) (by rw [dg_two]; omega), h.lb, dg_two]
    omega
  · rw [e1]
    rcases Nat.lt_or_ge j i with hj' | hj'
    · rw [h.zero j hj', zero_mul, add_zero, h.val j hj']
    · obtain rfl : j = i := by omega
      rw [hc, mul_comm (cf Y j + _), ← mul_assoc, mul_inv hu, one_mul, add_comm (cf Y j), ← add_assoc, add_self, zero_add]
  · rw [e2]
    rcases Nat.lt_or_ge j i with hj' | hj'
    · rw [h.zero j hj', zero_mul]
    · obtain rfl : j = i := by omega
      rw [add_self, mul_zero]
  · rw [e2]
    intro hz
    rcases mul_eq_zero hz with hz | hz
    · exact h.unit x (fun j hj => hne j (by omega)) hz
    · exact hne i (by omega) (eq_of_add hz).symm
theorem through_l (X Y : Poly) (hn : X.length ≤ 128) (hxy : Y.length = X.length) : ∀ (e i K : Nat) (out base : Poly), i + e = X.length → (∀ j k, j < k → k < i → cf X j ≠ cf X k) → Newton X Y i out base → e < K →
    ((∀ j k, j < k → k < X.length → cf X j ≠ cf X k) ∧ ∃ g, field_Through.l0 K (IL X) (IL Y) (IL out) (IL base) (X.length : Int) (i : Int) = some (IL g, 0) ∧ tr g = g ∧ dg g ≤ X.length ∧ ∀ j, j < X.length → ev g (cf X j) = cf Y j) ∨
    ((∃ j k, j < k ∧ k < X.length ∧ cf X j = cf X k) ∧ field_Through.l0 K (IL X) (IL Y) (IL out) (IL base) (X.length : Int) (i : Int) = some ([], 2))
  | 0, i, K, out, base, he, hd, hN, hK => by
    obtain ⟨K, rfl⟩ : ∃ m, K = m + 1 := ⟨K - 1, by omega⟩
    obtain rfl : i = X.length := by omega
    exact .inl ⟨hd, out, by rw [field_Through.l0, if_neg (by omega)], hN.tro, hN.lo, hN.val⟩
  | e + 1, i, K, out, base, he, hd, hN, hK => by
    obtain ⟨K, rfl⟩ : ∃ m, K = m + 1 := ⟨K - 1, by omega⟩
    have lb := hN.lb
    have lo := hN.lo
    have llb := len_of_tr hN.trb
    have llo := len_of_tr hN.tro
    have hstart : field_Through.l0 (K + 1) (IL X) (IL Y) (IL out) (IL base) (X.length : Int) (i : Int) = if ofF (ev base (cf X i)) = 0 then some ([], 2) else field_Through.l0 K (IL X) (IL Y) (IL (tr (addP out (tr (mulP base [(cf Y i + ev out (cf X i)) * Gf.inv (ev base (cf X i))]))))) (IL (tr (mulP base [cf X i, 1]))) (X.length : Int) ((i + 1 : Nat) : Int) := by
      rw [field_Through.l0, if_pos (by omega), if_pos (by omega), if_pos (by rw [IL_len]; omega), rd_ILn, eval_f, Option.bind_some]
      by_cases h0 : ofF (ev base (cf X i)) = 0
      · rw [if_pos h0, if_pos h0]
      · rw [if_neg h0, if_neg h0, if_pos (by rw [IL_len]; omega), eval_f, Option.bind_some, inv_ofF (fun h => h0 (ofF_eq_zero.2 h)), Option.bind_some, rd_ILn, bx_ofF, mul_ofF, Option.bind_some]
        rw [show ([ofF ((cf Y i + ev out (cf X i)) * Gf.inv (ev base (cf X i)))] : List Int) = IL [(cf Y i + ev out (cf X i)) * Gf.inv (ev base (cf X i))] from rfl, product_f _ _ (by omega) (by simp), Option.bind_some, sum_f _ _ (by omega) (by
          have h1 := tr_len (mulP base [(cf Y i + ev out (cf X i)) * Gf.inv (ev base (cf X i))])
          have h2 : (tr (mulP base [(cf Y i + ev out (cf X i)) * Gf.inv (ev base (cf X i))])).length = dg (mulP base [(cf Y i + ev out (cf X i)) * Gf.inv (ev base (cf X i))]) := rfl
          have h3 := mul_dg_le base [(cf Y i + ev out (cf X i)) * Gf.inv (ev base (cf X i))]
          simp only [List.length_singleton] at h3
          omega), Option.bind_some, show ([ofF (cf X i), 1] : List Int) = IL [cf X i, 1] from rfl, product_f _ _ (by omega) (by simp), Option.bind_some, w64 (by omega) (by omega)]
        rfl
    by_cases hx : ∀ j, j < i → cf X i ≠ cf X j
    · have hu : ¬ ofF (ev base (cf X i)) = 0 := fun h => hN.unit _ hx (ofF_eq_zero.1 h)
      rw [hstart, if_neg hu]
      exact through_l X Y hn hxy e (i + 1) K _ _ (by omega) (fun j k hj hk => by
        rcases Nat.lt_or_ge k i with h | h
        · exact hd j k hj h
        · obtain rfl : k = i := by omega
          exact (hx j hj).symm) (hN.step hx _ rfl) (by omega)
    · obtain ⟨j, hj, hji⟩ : ∃ j, j < i ∧ cf X i = cf X j := by
        refine Classical.byContradiction fun hc => hx fun j hj he => hc ⟨j, hj, he⟩
      refine .inr ⟨⟨j, i, hj, by omega, hji.symm⟩, ?_⟩
      rw [hstart, if_pos]
      rw [hji, hN.zero j hj]
      rfl
theorem Through_f (X Y : Poly) (hn : X.length ≤ 128) (hxy : Y.length = X.length) (k : Nat) (hk : 1000 ≤ k) :
    ((∀ j k, j < k → k < X.length → cf X j ≠ cf X k) ∧ ∃ g, field_Through.f k (IL X) (IL Y) = some (IL g, 0) ∧ tr g = g ∧ dg g ≤ X.length ∧ ∀ j, j < X.length → ev g (cf X j) = cf Y j) ∨
    ((∃ j k, j < k ∧ k < X.length ∧ cf X j = cf X k) ∧ field_Through.f k (IL X) (IL Y) = some ([], 2)) := by
  unfold field_Through.f
  rw [check_two X Y hn (by omega), Option.bind_some, if_pos rfl, IL_len, IL_len, if_pos (by omega)]
  exact through_l X Y hn hxy X.length 0 k [] [1] (by omega) (fun j k _ h => by omega) (Newton.start X Y) (by omega)
end Go.Proofs.YtehgfpfmpkmdmaaDoor.Print
