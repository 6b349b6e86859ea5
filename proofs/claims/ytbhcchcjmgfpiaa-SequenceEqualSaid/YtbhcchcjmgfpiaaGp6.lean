/- SequenceEqual in plain Lean: the printed text of the law gives true at every input. -/
import Derived.Test.YtbhcchcjmgfpiaaPed
import Derived.Test.YtbhcchcjmgfpiaaGp
namespace Go.Proofs.Ytbhcchcjmgfpiaa.Print
open Go.RowKit Go.Proofs.YtbhcchcjmgfpiaaW.PrintWords Go.Proofs.YtbhcchcjmgfpiaaW.PrintLast Go.Proofs.YtbhcchcjmgfpiaaW.PrintMore

theorem wrap64_of (n : Int) (h1 : -1000000000 ≤ n) (h2 : n ≤ 1000000000) : wrap64 n = n := by unfold wrap64; omega
theorem eq_fill (a2 a3 V C : Int) (s : Nat) (hs : s ≤ 64) (hC : wrap64 (wrap64 ((s : Int) * V) + wrap64 a2) = C) : ∀ (d i k : Nat), i + d = s →
    letterbaglaw28_SequenceEqual.l0 (k + d) a2 a3 (s : Int) V (List.replicate i C ++ List.replicate d 0) (s : Int) (i : Int) = letterbaglaw28_SequenceEqual.l0 k a2 a3 (s : Int) V (List.replicate s C) (s : Int) (s : Int)
  | 0, i, k, h => by
    obtain rfl : i = s := by omega
    simp
  | d + 1, i, k, h => by
    have ih := eq_fill a2 a3 V C s hs hC d (i + 1) k (by omega)
    rw [← ih, show k + (d + 1) = (k + d) + 1 by omega, letterbaglaw28_SequenceEqual.l0, if_pos (by omega), if_pos (by omega), if_pos (by simp; omega), hC, wrap_nat i (by omega), Int.toNat_natCast]
    congr 1
    rw [List.replicate_succ, List.set_append_right _ _ (by simp), List.length_replicate, Nat.sub_self, List.set_cons_zero, List.replicate_succ', List.append_assoc]
    rfl
theorem eqStops_succ (i : Nat) (v : Int) : eqStops (i + 1) v = eqStops i v ++ [⟨(i : Int) + 1, v⟩] := by
  simp [eqStops, List.range_succ]
theorem eq_stops (S V : Int) (c x62 : List Int) (x63 x64 : Int) (n : Nat) (hn : n ≤ 1000) : ∀ (d i k : Nat), i + d = n →
    letterbaglaw28_SequenceEqual.l2 (k + d) S V c (n : Int) (eqStops i V) (i : Int) x62 x63 x64 = letterbaglaw28_SequenceEqual.l2 k S V c (n : Int) (eqStops n V) (n : Int) x62 x63 x64
  | 0, i, k, h => by
    obtain rfl : i = n := by omega
    rfl
  | d + 1, i, k, h => by
    have ih := eq_stops S V c x62 x63 x64 n hn d (i + 1) k (by omega)
    rw [← ih, show k + (d + 1) = (k + d) + 1 by omega, letterbaglaw28_SequenceEqual.l2, if_pos (by omega), if_pos (by rw [eqStops_len]; omega), wrap_nat i (by omega), eqStops_succ]
    rfl
/-- One of the three numbers of stops. -/
theorem eq_round (s : Nat) (v C : Int) (hs : 1 ≤ s) (hs2 : s ≤ 30) (hC : (s : Int) * v ≤ C) (hC2 : C ≤ 100000) (hv : 1 ≤ v) (hv2 : v ≤ 100) (x62 : List Int) (x64 : Nat) (hx : x64 < x62.length) (hx2 : x62.length = 3) (n : Nat) (hn : n ≤ s * s + 1) (hr : rd x62 x64 = n) :
    ∃ d, ∀ k, letterbaglaw28_SequenceEqual.l1 (k + d) (s : Int) v (List.replicate s C) x62 (x62.length : Int) (x64 : Int) = letterbaglaw28_SequenceEqual.l1 k (s : Int) v (List.replicate s C) x62 (x62.length : Int) ((x64 + 1 : Nat) : Int) := by
  have hss : s * s ≤ 900 := Nat.le_trans (Nat.mul_le_mul hs2 hs2) (by decide)
  have hw : wrap64 ((s : Int) * (s : Int)) = ((s * s : Nat) : Int) := by
    rw [Int.natCast_mul, wrap64_of]
    · have : (0 : Int) ≤ (s : Int) * (s : Int) := Int.mul_nonneg (by omega) (by omega)
      omega
    · have : (s : Int) * (s : Int) = ((s * s : Nat) : Int) := (Int.natCast_mul s s).symm
      omega
  obtain ⟨hfull, hok⟩ := eq_make n s v C hs (by omega) hC hC2 hv (by omega) hn (by omega)
  by_cases h : s * s < n
  · refine ⟨1 + n + 1, fun k => ?_⟩
    have h2 := eq_stops (s : Int) v (List.replicate s C) x62 (x62.length : Int) (x64 : Int) n (by omega) n 0 (k + 1) (by omega)
    rw [show k + (1 + n + 1) = (k + 1 + n) + 1 by omega, letterbaglaw28_SequenceEqual.l1, if_pos (by omega), if_pos (by omega), if_pos (by omega), hr]
    refine h2.trans ?_
    rw [letterbaglaw28_SequenceEqual.l2, if_neg (by omega), hfull h, Option.bind_some, hw, if_pos (by omega), if_pos rfl, wrap_nat x64 (by omega)]
  · obtain ⟨t, ht, hm, hc⟩ := hok (by omega)
    refine ⟨2 + n + 1, fun k => ?_⟩
    have h2 := eq_stops (s : Int) v (List.replicate s C) x62 (x62.length : Int) (x64 : Int) n (by omega) n 0 (k + 2) (by omega)
    rw [show k + (2 + n + 1) = (k + 2 + n) + 1 by omega, letterbaglaw28_SequenceEqual.l1, if_pos (by omega), if_pos (by omega), if_pos (by omega), hr]
    refine h2.trans ?_
    rw [show k + 2 = (k + 1) + 1 by omega, letterbaglaw28_SequenceEqual.l2, if_neg (by omega), hm, Option.bind_some, hw, if_neg (by omega), if_pos rfl]
    have hne : ((t.length : Int) != (n : Int)) = false := by rw [ht]; simp
    simp only [hne]
    rw [letterbaglaw28_SequenceEqual.j3, if_neg (by decide), sequence_Check.f, hc, Option.bind_some, if_pos rfl, wrap_nat x64 (by omega)]

theorem sequenceEqual_pure (a0 a1 a2 a3 : Int) (w0 : 0 ≤ a0 ∧ a0 ≤ 255) (w1 : 0 ≤ a1 ∧ a1 ≤ 255) (w2 : 0 ≤ a2 ∧ a2 ≤ 255) (w3 : 0 ≤ a3 ∧ a3 ≤ 65535) : ∃ k, letterbaglaw28_SequenceEqual.f k a0 a1 a2 a3 = some true := by
  obtain ⟨s, hs⟩ : ∃ s : Nat, wrap64 (1 + Int.tmod (wrap64 a0) 30) = s := ⟨(1 + a0 % 30).toNat, by
    rw [wrap64_of a0 (by omega) (by omega), Int.tmod_eq_emod_of_nonneg w0.1, wrap64_of _ (by omega) (by omega)]
    omega⟩
  have hs1 : 1 ≤ s ∧ s ≤ 30 := by
    rw [wrap64_of a0 (by omega) (by omega), Int.tmod_eq_emod_of_nonneg w0.1, wrap64_of _ (by omega) (by omega)] at hs
    omega
  have HS := Aside0.mk hs
  clear hs
  obtain ⟨v, hv⟩ : ∃ v : Int, wrap64 (1 + Int.tmod (wrap64 a1) 100) = v := ⟨_, rfl⟩
  have hv1 : 1 ≤ v ∧ v ≤ 100 := by
    rw [wrap64_of a1 (by omega) (by omega), Int.tmod_eq_emod_of_nonneg w1.1, wrap64_of _ (by omega) (by omega)] at hv
    omega
  have HV := Aside0.mk hv
  clear hv
  have hsv : 0 ≤ (s : Int) * v ∧ (s : Int) * v ≤ 30 * 100 := ⟨Int.mul_nonneg (by omega) (by omega), Int.mul_le_mul (by omega) (by omega) (by omega) (by omega)⟩
  have hss : s * s ≤ 900 := Nat.le_trans (Nat.mul_le_mul hs1.2 hs1.2) (by decide)
  have hssI : (s : Int) * (s : Int) = ((s * s : Nat) : Int) := (Int.natCast_mul s s).symm
  have hC := Aside0.mk (show wrap64 (wrap64 ((s : Int) * v) + wrap64 a2) = (s : Int) * v + a2 by
    rw [wrap64_of ((s : Int) * v) (by omega) (by omega), wrap64_of a2 (by omega) (by omega), wrap64_of _ (by omega) (by omega)])
  have hsq := Aside0.mk (show wrap64 ((s : Int) * (s : Int)) = ((s * s : Nat) : Int) by rw [hssI, wrap64_of _ (by omega) (by omega)])
  have hqq : ((s * s + 1 : Nat) : Int) = ((s * s : Nat) : Int) + 1 := Int.natCast_add (s * s) 1
  have hsq2 := Aside0.mk (show wrap64 (((s * s : Nat) : Int) + 1) = ((s * s : Nat) : Int) + 1 from wrap64_of (((s * s : Nat) : Int) + 1) (by omega) (by omega))
  have hsq1 := Aside0.mk (show wrap64 (wrap64 ((s : Int) * (s : Int)) + 1) = ((s * s + 1 : Nat) : Int) by
    rw [hsq.out]
    rw [hsq2.out]
    exact hqq.symm)
  obtain ⟨n, hn⟩ : ∃ n : Nat, Int.tmod (wrap64 a3) ((s * s + 1 : Nat) : Int) = n := ⟨(a3 % ((s * s + 1 : Nat) : Int)).toNat, by
    rw [wrap64_of a3 (by omega) (by omega), Int.tmod_eq_emod_of_nonneg w3.1]
    have := Int.emod_nonneg a3 (show ((s * s + 1 : Nat) : Int) ≠ 0 by omega)
    omega⟩
  have hn1 : n ≤ s * s + 1 := by
    rw [wrap64_of a3 (by omega) (by omega), Int.tmod_eq_emod_of_nonneg w3.1] at hn
    have := Int.emod_lt_of_pos a3 (show 0 < ((s * s + 1 : Nat) : Int) by omega)
    omega
  have HN := Aside0.mk hn
  clear hn
  obtain ⟨d1, h1⟩ := eq_round s v ((s : Int) * v + a2) hs1.1 hs1.2 (by omega) (by omega) hv1.1 hv1.2 [(n : Int), ((s * s : Nat) : Int), ((s * s + 1 : Nat) : Int)] 0 (by simp) rfl n hn1 rfl
  obtain ⟨d2, h2⟩ := eq_round s v ((s : Int) * v + a2) hs1.1 hs1.2 (by omega) (by omega) hv1.1 hv1.2 [(n : Int), ((s * s : Nat) : Int), ((s * s + 1 : Nat) : Int)] 1 (by simp) rfl (s * s) (by omega) rfl
  obtain ⟨d3, h3⟩ := eq_round s v ((s : Int) * v + a2) hs1.1 hs1.2 (by omega) (by omega) hv1.1 hv1.2 [(n : Int), ((s * s : Nat) : Int), ((s * s + 1 : Nat) : Int)] 2 (by simp) rfl (s * s + 1) (by omega) rfl
  refine ⟨(1 + d3 + d2 + d1) + 1 + s, ?_⟩
  unfold letterbaglaw28_SequenceEqual.f
  rw [HS.out, HV.out, if_pos (by omega), if_pos (by omega), Option.bind_some, Int.toNat_natCast, List.length_replicate]
  have h0 := eq_fill a2 a3 v ((s : Int) * v + a2) s (by omega) hC.out s 0 ((1 + d3 + d2 + d1) + 1) (by omega)
  rw [List.replicate_zero, List.nil_append] at h0
  refine h0.trans ?_
  rw [letterbaglaw28_SequenceEqual.l0, if_neg (by omega), hsq1.out, hsq.out, if_neg (by omega), HN.out, Option.bind_some]
  refine (h1 _).trans ((h2 _).trans ((h3 _).trans ?_))
  rw [letterbaglaw28_SequenceEqual.l1, if_neg (by simp)]
  rfl
end Go.Proofs.Ytbhcchcjmgfpiaa.Print
