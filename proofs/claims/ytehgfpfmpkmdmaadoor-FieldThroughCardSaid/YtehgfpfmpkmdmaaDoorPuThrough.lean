/- FieldThrough's plain law: through the values of a polynomial at as many different places as it has coefficients there is just this polynomial. Plain Lean. -/
import Derived.Test.YtehgfpfmpkmdmaaDoorFt
import Derived.Test.YtehgfpfmpkmdmaaDoorPrint40
namespace Go.Proofs.YtehgfpfmpkmdmaaDoor.Print
open Go.RowKit Go.Proofs.YtehgfpfmpkmdmaaDoorW.PrintWords Go.Proofs.YtehgfpfmpkmdmaaDoorW.PrintLast Go.Proofs.YtehgfpfmpkmdmaaDoorW.PrintMore
open Go.Proofs.YtehgfpfmpkmdmaaDoor.Gf

/-- The places. -/
def plc (a : Nat) (i : Nat) : F := ⟨(a + 5 * i) % 64, Nat.mod_lt _ (by decide)⟩
def plcs (a n : Nat) : Poly := (List.range n).map (plc a)
def vals (p : Poly) (a n : Nat) : Poly := (List.range n).map (fun i => ev p (plc a i))
theorem plcs_len (a n : Nat) : (plcs a n).length = n := by simp [plcs]
theorem vals_len (p : Poly) (a n : Nat) : (vals p a n).length = n := by simp [vals]
theorem plcs_succ (a n : Nat) : IL (plcs a (n + 1)) = IL (plcs a n) ++ [ofF (plc a n)] := by simp [plcs, IL, List.range_succ]
theorem vals_succ (p : Poly) (a n : Nat) : IL (vals p a (n + 1)) = IL (vals p a n) ++ [ofF (ev p (plc a n))] := by simp [vals, IL, List.range_succ]
theorem cf_plcs (a n j : Nat) (h : j < n) : cf (plcs a n) j = plc a j := by simp [cf, plcs, List.getD_eq_getElem?_getD, h]
theorem cf_vals (p : Poly) (a n j : Nat) (h : j < n) : cf (vals p a n) j = ev p (plc a j) := by simp [cf, vals, List.getD_eq_getElem?_getD, h]
theorem plc_inj {a i j : Nat} (hi : i < 20) (hj : j < 20) (h : plc a i = plc a j) : i = j := by
  have := congrArg F.v h
  simp only [plc] at this
  omega
theorem plc_int (a1 : Int) (h0 : 0 ≤ a1) (h1 : a1 ≤ 255) (i : Nat) (hi : i < 20) : (Int.tmod (wrap64 (wrap64 a1 + wrap64 (5 * (i : Int)))) 64) % 256 = ofF (plc a1.toNat i) := by
  rw [w64 (x := a1) (by omega) (by omega), w64 (x := 5 * (i : Int)) (by omega) (by omega), w64 (by omega) (by omega), Int.tmod_eq_emod_of_nonneg (by omega)]
  obtain ⟨n, rfl⟩ := Int.eq_ofNat_of_zero_le h0
  unfold ofF plc
  simp only [Int.toNat_natCast]
  rw [show ((n : Int) + 5 * (i : Int)) = ((n + 5 * i : Nat) : Int) by omega]
  omega
theorem nodup_of {l : Poly} (h : ∀ j k, j < k → k < l.length → cf l j ≠ cf l k) : l.Nodup := by
  rw [List.nodup_iff_pairwise_ne, List.pairwise_iff_getElem]
  intro i j hi hj hij he
  exact h i j hij hj (by rw [cf_get hi, cf_get hj, he])
theorem through_law (p : Poly) (hp : p.length ≤ 20) (a1 : Int) (h0 : 0 ≤ a1) (h1 : a1 ≤ 255) : ∀ (e i K : Nat), i + e = p.length → 2000 + e ≤ K →
    letterbaglaw18_FieldThrough.l0 K a1 (IL p) (IL (plcs a1.toNat i)) (IL (vals p a1.toNat i)) (p.length : Int) (i : Int) = some true
  | 0, i, K, he, hK => by
    obtain ⟨K, rfl⟩ : ∃ m, K = m + 1 := ⟨K - 1, by omega⟩
    obtain rfl : i = p.length := by omega
    rw [letterbaglaw18_FieldThrough.l0, if_neg (by omega)]
    rcases Through_f (plcs a1.toNat p.length) (vals p a1.toNat p.length) (by rw [plcs_len]; omega) (by rw [plcs_len, vals_len]) K (by omega) with ⟨hd, g, hg, htg, hdg, hv⟩ | ⟨⟨j, k, hjk, hk, hc⟩, _⟩
    · rw [plcs_len] at hdg hv
      have he : g = tr p := by
        rw [← htg]
        refine tr_canon (agree hdg (dg_len p) (plcs a1.toNat p.length) (nodup_of hd) (by rw [plcs_len]; exact Nat.le_refl _) (fun x hx => ?_))
        obtain ⟨j, hj, rfl⟩ := List.mem_map.1 hx
        rw [List.mem_range] at hj
        have := hv j hj
        rwa [cf_plcs _ _ _ hj, cf_vals _ _ _ _ hj] at this
      subst he
      have lt := tr_len p
      rw [hg, Option.bind_some, Trim_f p (by omega) K (by omega), Option.bind_some]
      simp only
      rw [if_pos trivial, if_pos trivial, same_f _ (by rw [IL_len]; omega) _ (by rw [IL_len]; omega), Option.bind_some, if_pos rfl]
      rfl
    · rw [plcs_len] at hk
      rw [cf_plcs _ _ _ (by omega), cf_plcs _ _ _ hk] at hc
      have := plc_inj (by omega) (by omega) hc
      omega
  | e + 1, i, K, he, hK => by
    obtain ⟨K, rfl⟩ : ∃ m, K = m + 1 := ⟨K - 1, by omega⟩
    rw [letterbaglaw18_FieldThrough.l0, if_pos (by omega), plc_int a1 h0 h1 i (by omega), Eval_f p (by omega), Option.bind_some]
    simp only
    rw [if_pos trivial, if_pos (by rw [IL_len, plcs_len]; omega), if_pos (by rw [IL_len, vals_len]; omega), w64 (by omega) (by omega), ← plcs_succ, ← vals_succ]
    exact through_law p hp a1 h0 h1 e (i + 1) K (by omega) (by omega)
theorem u8_nonneg' {l : List Int} (h : ∀ x ∈ l, (Lit.int .u8 x).wf = true) : ∀ x ∈ l, 0 ≤ x := fun x hx => by
  have := h x hx
  simp [Lit.wf, IntKind.min, IntKind.max, IntKind.signed, IntKind.bits] at this
  omega
theorem fieldThrough_pure : letterbaglaw18_FieldThrough.Pure := by
  intro l0 a1 _ _ w0 w1
  refine ⟨3000, ?_⟩
  obtain ⟨p, hp, hpl⟩ := elements_f l0 (u8_nonneg' w0) 20 (by omega) 3000 (by omega)
  have hb : 0 ≤ a1 ∧ a1 ≤ 255 := by
    simp [Lit.wf, IntKind.min, IntKind.max, IntKind.signed, IntKind.bits] at w1
    omega
  unfold letterbaglaw18_FieldThrough.f
  rw [show (20 : Int) = ((20 : Nat) : Int) from rfl, hp, Option.bind_some, IL_len]
  exact through_law p hpl a1 hb.1 hb.2 p.length 0 3000 (by omega) (by omega)
end Go.Proofs.YtehgfpfmpkmdmaaDoor.Print
