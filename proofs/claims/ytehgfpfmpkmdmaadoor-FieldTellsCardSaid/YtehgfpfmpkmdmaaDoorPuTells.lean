/- FieldTells' plain law: Add, Mul, Inv, Pow and Log agree with the reference. Plain Lean. -/
import Derived.Test.YtehgfpfmpkmdmaaDoorFr
import Derived.Test.YtehgfpfmpkmdmaaDoorFo
import Derived.Test.YtehgfpfmpkmdmaaDoorPrint34
namespace Go.Proofs.YtehgfpfmpkmdmaaDoor.Print
open Go.RowKit Go.Proofs.YtehgfpfmpkmdmaaDoorW.PrintWords Go.Proofs.YtehgfpfmpkmdmaaDoorW.PrintLast Go.Proofs.YtehgfpfmpkmdmaaDoorW.PrintMore
open Go.Proofs.YtehgfpfmpkmdmaaDoor.Gf

theorem awake_t : letterbaglaw18_awake.f = some true := rfl
/-- The exponent as the law brings it into 0 to 62. -/
theorem expo_law (n : Int) : (if Int.tmod n 63 < 0 then Int.tmod n 63 + 63 else Int.tmod n 63) = (((n % 63).toNat : Nat) : Int) := by
  have h1 := Int.tmod_lt_of_pos n (show (0 : Int) < 63 by decide)
  have h2 := Int.lt_tmod_of_pos n (show (0 : Int) < 63 by decide)
  have h3 : n = 63 * Int.tdiv n 63 + Int.tmod n 63 := (Int.mul_tdiv_add_tmod n 63).symm
  generalize Int.tdiv n 63 = q at h3
  generalize Int.tmod n 63 = m at *
  subst h3
  split <;> omega
theorem tells_j2 (a : F) (ha : a ≠ 0) (n : Nat) (hn : n ≤ 62) (k : Nat) (hk : 2000 ≤ k) :
    letterbaglaw18_FieldTells.j2 k (ofF a) (ofF (Gf.inv a)) 0 (ofF (fpow a n)) 0 (lg a.v : Int) 0 (n : Int) = some true := by
  obtain ⟨k, rfl⟩ : ∃ m, k = m + 1 := ⟨k - 1, by omega⟩
  rw [letterbaglaw18_FieldTells.j2, if_pos rfl, if_pos rfl, if_pos rfl, refInv_f a ha k (by omega), Option.bind_some, if_pos rfl, refLog_f a ha k (by omega), Option.bind_some, if_pos rfl, refPow_f a n (by omega) k (by omega), Option.bind_some, if_pos rfl, awake_t]
  rfl
theorem tells_j1 (a : F) (n : Int) (hlo : -9223372036854775808 ≤ n) (hhi : n ≤ 9223372036854775807) (i g p h l e : Int) (hi : field_Inv.f (ofF a) = some (i, g)) (hp : field_Pow.f (ofF a) n = some (p, h)) (hl : field_Log.f (ofF a) = some (l, e)) (k : Nat) (hk : 3000 ≤ k) :
    letterbaglaw18_FieldTells.j1 k (ofF a) n i g p h l e = some true := by
  obtain ⟨k, rfl⟩ : ∃ m, k = m + 1 := ⟨k - 1, by omega⟩
  have hb := ofF_lt a
  rw [letterbaglaw18_FieldTells.j1, if_neg (by omega)]
  by_cases h0 : a = 0
  · subst h0
    rw [ofF_zero] at hi hp hl ⊢
    have e1 : (0, 6) = (i, g) := Option.some.inj ((show field_Inv.f 0 = some (0, 6) from rfl).symm.trans hi)
    have e2 : (0, 6) = (l, e) := Option.some.inj ((show field_Log.f 0 = some (0, 6) from rfl).symm.trans hl)
    cases e1
    cases e2
    rw [if_pos rfl]
    by_cases hn : n = 0
    · subst hn
      have e3 : (1, 0) = (p, h) := Option.some.inj ((show field_Pow.f 0 0 = some (1, 0) from rfl).symm.trans hp)
      cases e3
      rfl
    · rw [if_neg hn]
      have hpw : field_Pow.f 0 n = if n < 0 then some (0, 6) else some (0, 0) := by
        unfold field_Pow.f
        rw [if_neg (by decide), if_neg hn, if_pos rfl]
      by_cases hneg : n < 0
      · rw [if_pos hneg] at hpw
        have e3 : (0, 6) = (p, h) := Option.some.inj (hpw.symm.trans hp)
        cases e3
        rw [if_pos hneg]
        rfl
      · rw [if_neg hneg] at hpw
        have e3 : (0, 0) = (p, h) := Option.some.inj (hpw.symm.trans hp)
        cases e3
        rw [if_neg hneg]
        rfl
  · have h1 := ofF_ne h0
    rw [if_neg h1]
    have e1 := Option.some.inj ((Inv_f h0).symm.trans hi)
    have e2 := Option.some.inj ((Log_f h0).symm.trans hl)
    have hpw : field_Pow.f (ofF a) n = some (ofF (fpow a (n % 63).toNat), 0) := by
      by_cases hn : n = 0
      · subst hn
        exact Pow_zero a
      · rw [Pow_f h0 n hn hlo hhi, ← fpow_v h0]
        rfl
    have e3 := Option.some.inj (hpw.symm.trans hp)
    cases e1
    cases e2
    cases e3
    have hx := expo_law n
    have hj := tells_j2 a h0 (n % 63).toNat (by omega) k (by omega)
    have h2 := Int.tmod_lt_of_pos n (show (0 : Int) < 63 by decide)
    have h3 := Int.lt_tmod_of_pos n (show (0 : Int) < 63 by decide)
    by_cases hneg : Int.tmod n 63 < 0
    · rw [if_pos hneg] at hx
      rw [if_pos hneg, w64 (by omega) (by omega), hx]
      exact hj
    · rw [if_neg hneg] at hx
      rw [if_neg hneg, hx]
      exact hj
theorem fieldTells_pure : letterbaglaw18_FieldTells.Pure := by
  intro a0 a1 a2 w0 w1 w2
  refine ⟨5000, ?_⟩
  have b0 : 0 ≤ a0 ∧ a0 ≤ 255 := by
    simp [Lit.wf, IntKind.min, IntKind.max, IntKind.signed, IntKind.bits] at w0
    omega
  have b1 : 0 ≤ a1 ∧ a1 ≤ 255 := by
    simp [Lit.wf, IntKind.min, IntKind.max, IntKind.signed, IntKind.bits] at w1
    omega
  have b2 : -9223372036854775808 ≤ a2 ∧ a2 ≤ 9223372036854775807 := by
    simp [Lit.wf, IntKind.min, IntKind.max, IntKind.signed, IntKind.bits] at w2
    omega
  unfold letterbaglaw18_FieldTells.f
  by_cases h0 : a0 > 63
  · rw [Add_bad (.inl (by omega)), Option.bind_some, Mul_bad (.inl (by omega)), Option.bind_some, show field_Inv.f a0 = some (0, 2) by unfold field_Inv.f; rw [if_pos (by omega)], Option.bind_some, show field_Pow.f a0 a2 = some (0, 2) by unfold field_Pow.f; rw [if_pos (by omega)], Option.bind_some, show field_Log.f a0 = some (0, 2) by unfold field_Log.f; rw [if_pos (by omega)], Option.bind_some, if_pos h0, letterbaglaw18_FieldTells.j0, if_pos rfl, if_pos rfl, if_pos rfl, if_pos rfl, if_pos rfl, letterbaglaw18_FieldTells.j1, if_pos h0]
    rfl
  · obtain ⟨a, rfl⟩ : ∃ a : F, a0 = ofF a := ⟨toF a0, (ofF_toF (by rw [elB_iff]; omega)).symm⟩
    obtain ⟨⟨i, g⟩, hi⟩ : ∃ r, field_Inv.f (ofF a) = some r := by
      by_cases h : a = 0
      · subst h; exact ⟨(0, 6), rfl⟩
      · exact ⟨_, Inv_f h⟩
    obtain ⟨⟨l, e⟩, hl⟩ : ∃ r, field_Log.f (ofF a) = some r := by
      by_cases h : a = 0
      · subst h; exact ⟨(0, 6), rfl⟩
      · exact ⟨_, Log_f h⟩
    obtain ⟨⟨p, h⟩, hp⟩ : ∃ r, field_Pow.f (ofF a) a2 = some r := by
      by_cases hn : a2 = 0
      · subst hn; exact ⟨_, Pow_zero a⟩
      · by_cases h : a = 0
        · subst h
          unfold field_Pow.f
          rw [ofF_zero, if_neg (by decide), if_neg hn, if_pos rfl]
          split
          · exact ⟨_, rfl⟩
          · exact ⟨_, rfl⟩
        · exact ⟨_, Pow_f h a2 hn b2.1 b2.2⟩
    have hj := tells_j1 a a2 b2.1 b2.2 i g p h l e hi hp hl 4999 (by omega)
    by_cases h1 : a1 > 63
    · rw [Add_bad (.inr (by omega)), Option.bind_some, Mul_bad (.inr (by omega)), Option.bind_some, hi, Option.bind_some, hp, Option.bind_some, hl, Option.bind_some, if_neg h0, decide_eq_true h1, letterbaglaw18_FieldTells.j0, if_pos rfl, if_pos rfl, if_pos rfl, if_pos rfl, if_pos rfl]
      exact hj
    · obtain ⟨b, rfl⟩ : ∃ b : F, a1 = ofF b := ⟨toF a1, (ofF_toF (by rw [elB_iff]; omega)).symm⟩
      rw [Add_f, Option.bind_some, Mul_f, Option.bind_some, hi, Option.bind_some, hp, Option.bind_some, hl, Option.bind_some, if_neg h0, decide_eq_false h1, letterbaglaw18_FieldTells.j0, if_neg (by decide), if_pos rfl, if_pos rfl, bx_ofF, if_pos rfl, refMul_f a b _ (by omega), Option.bind_some, if_pos rfl]
      exact hj
end Go.Proofs.YtehgfpfmpkmdmaaDoor.Print
