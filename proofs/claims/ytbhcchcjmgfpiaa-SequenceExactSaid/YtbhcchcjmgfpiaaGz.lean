/- SequenceExact's plain law: what its printed function answers is true. -/
import Derived.Test.YtbhcchcjmgfpiaaGzc
import Derived.Test.YtbhcchcjmgfpiaaPxd
namespace Go.Proofs.Ytbhcchcjmgfpiaa.Print
open Go.RowKit Go.Proofs.YtbhcchcjmgfpiaaW.PrintWords Go.Proofs.YtbhcchcjmgfpiaaW.PrintLast Go.Proofs.YtbhcchcjmgfpiaaW.PrintMore
set_option linter.unusedVariables false
set_option linter.unusedSimpArgs false

theorem flat_take (r : List (List Int)) (i : Nat) (h : i < r.length) : (r.take i).flatten.length + (rd_L4 r (i : Int)).length = (r.take (i + 1)).flatten.length := by
  rw [List.take_add_one, List.flatten_append, List.getElem?_eq_getElem h, rd_L4_get r i h]
  simp
theorem flat_take_le (r : List (List Int)) (i : Nat) : (r.take i).flatten.length ≤ r.flatten.length := by
  conv => rhs; rw [← List.take_append_drop i r, List.flatten_append]
  simp
theorem ex_l1 (c items p0 F S : List Int) (s : List S60) (r1 r2 : List (List Int)) (ord : List Int) (hc : c.length ≤ 64) (h1 : r1.length = c.length) (h2 : r2.length = c.length) (hF : F.length = c.length) (hS : S.length = c.length)
    (l1 : ∀ k : Nat, k < c.length → ((rd_L4 r1 k).length : Int) ≤ rd F k) (l2 : ∀ k : Nat, k < c.length → ((rd_L4 r2 k).length : Int) ≤ rd S k) (m1 : ∀ k : Nat, k < c.length → rd F k ≤ rd c k) (m2 : ∀ k : Nat, k < c.length → rd S k ≤ rd c k)
    (a1 : r1.flatten.length = items.length) (a2 : r2.flatten.length = items.length) (hi : items.length ≤ 2000) : ∀ (d i k : Nat), i + d = c.length → d < k →
    letterbaglaw28_SequenceExact.l1 k c items (((r1.take i).flatten.length : Nat) : Int) (((r2.take i).flatten.length : Nat) : Int) (c.length : Int) (i : Int) p0 s F S r1 r2 ord = some true
  | 0, i, k, h, hk => by
    obtain ⟨k, rfl⟩ : ∃ j, k = j + 1 := ⟨k - 1, by omega⟩
    rw [letterbaglaw28_SequenceExact.l1, if_neg (by omega), List.take_of_length_le (by omega), List.take_of_length_le (by omega), if_pos (by omega)]
    rw [a2]
    simp
  | d + 1, i, k, h, hk => by
    obtain ⟨k, rfl⟩ : ∃ j, k = j + 1 := ⟨k - 1, by omega⟩
    have hl := l1 i (by omega)
    have hl2 := l2 i (by omega)
    have hm := m1 i (by omega)
    have hm2 := m2 i (by omega)
    have e1 := flat_take r1 i (by omega)
    have e2 := flat_take r2 i (by omega)
    have b1 := flat_take_le r1 (i + 1)
    have b2 := flat_take_le r2 (i + 1)
    rw [letterbaglaw28_SequenceExact.l1, if_pos (by omega), if_pos (by omega), if_pos (by omega), if_pos (by omega), if_pos (by omega), if_neg (by omega), if_pos (by omega), if_neg (by omega), if_pos (by omega), if_neg (by omega), if_neg (by omega),
      wsm _ (by omega) (by omega), wsm _ (by omega) (by omega), wsm _ (by omega) (by omega)]
    have := ex_l1 c items p0 F S s r1 r2 ord hc h1 h2 hF hS l1 l2 m1 m2 a1 a2 hi d (i + 1) k (by omega) (by omega)
    rw [← e1, ← e2] at this
    exact this
theorem ex_l0 (stops : List S27) (c items p0 F S : List Int) (s : List S60) (r1 r2 : List (List Int)) (ord : List Int) (hn : (stops.map (·.f0)).Nodup) (hsl : stops.length ≤ 200) (hc : c.length ≤ 64) (hi : items.length ≤ 2000) (ho : ord.length = items.length)
    (hmem : ∀ i : Nat, i < ord.length → 0 ≤ rd ord i ∧ rd ord i < items.length) (hit : ∀ id ∈ items, ∃ p : Nat, ∃ hp : p < stops.length, id = stops[p].f0)
    (hst : ∀ i : Nat, i + 1 < ord.length → posOf stops (rd items (rd ord (i : Int))) < posOf stops (rd items (rd ord ((i + 1 : Nat) : Int))) ∨ (posOf stops (rd items (rd ord (i : Int))) = posOf stops (rd items (rd ord ((i + 1 : Nat) : Int))) ∧ rd ord (i : Int) < rd ord ((i + 1 : Nat) : Int)))
    (hend : ∀ k, c.length < k → letterbaglaw28_SequenceExact.l1 k c items 0 0 (c.length : Int) 0 p0 s F S r1 r2 ord = some true) : ∀ (d i k : Nat), i + d = ord.length → 2 * d + 300 < k →
    letterbaglaw28_SequenceExact.l0 k stops c items ord (ord.length : Int) (i : Int) p0 s F S r1 r2 ord = some true
  | 0, i, k, h, hk => by
    obtain ⟨k, rfl⟩ : ∃ j, k = j + 1 := ⟨k - 1, by omega⟩
    rw [letterbaglaw28_SequenceExact.l0, if_neg (by omega)]
    exact hend k (by omega)
  | d + 1, i, k, h, hk => by
    obtain ⟨k, rfl⟩ : ∃ j, k = j + 2 := ⟨k - 2, by omega⟩
    have hm := hmem i (by omega)
    have ih := ex_l0 stops c items p0 F S s r1 r2 ord hn hsl hc hi ho hmem hit hst hend d (i + 1) k (by omega) (by omega)
    have hin : ∀ j : Int, 0 ≤ j → j < items.length → rd items j ∈ items := fun j h0 h1 => by
      rw [rd, List.getD_eq_getElem?_getD, List.getElem?_eq_getElem (show j.toNat < items.length by omega)]
      exact List.getElem_mem _
    rw [letterbaglaw28_SequenceExact.l0, if_pos (by omega), if_pos (by omega), if_pos (by omega), if_neg (by omega), letterbaglaw28_SequenceExact.j3, if_neg (by simp; omega)]
    by_cases h0 : i = 0
    · subst h0
      rw [if_pos (by omega), wsm _ (by omega) (by omega)]
      exact ih
    · obtain ⟨j, rfl⟩ : ∃ j, i = j + 1 := ⟨i - 1, by omega⟩
      have hm2 := hmem j (by omega)
      have hs := hst j (by omega)
      have EW : Aside0 (wrap64 (((j + 1 : Nat) : Int) - 1) = (j : Int)) := ⟨by rw [wsm _ (by omega) (by omega)]; omega⟩
      have EW2 : Aside0 (wrap64 (((j + 1 : Nat) : Int) + 1) = ((j + 1 + 1 : Nat) : Int)) := ⟨by rw [wsm _ (by omega) (by omega)]; omega⟩
      have at1 := at_f stops hn (by omega) (rd items (rd ord (j : Int))) (hit _ (hin _ hm2.1 hm2.2)) k (by omega)
      have at2 := at_f stops hn (by omega) (rd items (rd ord ((j + 1 : Nat) : Int))) (hit _ (hin _ hm.1 hm.2)) k (by omega)
      rw [if_neg (by omega), EW.out, if_pos (by omega), if_pos (by omega), if_pos hm2.1, if_pos hm2.2, at1, Option.bind_some, if_pos hm.1, if_pos hm.2, at2, Option.bind_some, if_neg (by omega), EW2.out]
      rcases hs with hs | ⟨hs1, hs2⟩
      · rw [if_neg (by omega)]
        exact ih
      · rw [if_pos (by omega), if_neg (by omega)]
        exact ih
set_option maxHeartbeats 1000000 in
theorem sequenceExact_pure (l0 l1 l2 : List Int) (w0 : ∀ x ∈ l0, (Lit.int .u8 x).wf = true) (w1 : ∀ x ∈ l1, (Lit.int .u8 x).wf = true) (w2 : ∀ x ∈ l2, (Lit.int .u8 x).wf = true) (n0 : l0.length ≤ 9223372036854775807) (n1 : l1.length ≤ 9223372036854775807) :
    ∃ k, letterbaglaw28_SequenceExact.f k l0 l1 l2 = some true := by
  have hv := rd_u8 l0 w0
  have hc := rd_u8 l1 w1
  have hf := law_fit l0 l1 hv hc
  obtain ⟨c1, c2, c3⟩ := machL_ok l1 hc
  refine ⟨10000, ?_⟩
  unfold letterbaglaw28_SequenceExact.f
  rw [show letterbaglaw28_awake.f = some true from rfl, Option.bind_some, if_pos rfl, route_f l0 hv n0 10000 (by omega), Option.bind_some, machine_f' l1 hc n1 10000 (by omega), Option.bind_some]
  rcases law_make (routeL l0) (machL l1) hf with hmk | ⟨m, hm, hp, hmk⟩
  · rw [hmk, Option.bind_some]
    rfl
  · obtain ⟨hl, hld⟩ := loads_caps (routeL l0) (machL l1) hf m hm hp
    obtain ⟨hfe, hit, hlen, r1, r2, ord, hs, hr⟩ := law_run l0 l1 l2 w0 w1 w2 m hm hp
    have hF := loadsF_len (machL l1).length (seatL (machL l1) m 0 0 0 (routeL l0))
    have hS := loadsS_len (machL l1).length (seatL (machL l1) m 0 0 0 (routeL l0))
    have ho : ord.length = (feedL (routeL l0) l2).length := by rw [hr.perm.length_eq, upTo_len]
    have hrl := routeL_len l0
    rw [hmk, Option.bind_some]
    simp only
    rw [if_pos trivial, if_pos (by omega), if_pos (by omega), if_pos (by omega), same_f (machL l1) (by omega) 10000 (by omega), Option.bind_some, letterbaglaw28_SequenceExact.j0, if_neg (by decide), hfe, Option.bind_some, hs, Option.bind_some]
    simp only
    rw [if_pos trivial, if_pos (by omega), if_pos (by rw [hr.len1]), letterbaglaw28_SequenceExact.j1, if_neg (by rw [hr.len2]; simp)]
    refine ex_l0 (routeL l0) (machL l1) (feedL (routeL l0) l2) _ _ _ _ r1 r2 ord (routeL_nodup l0) (by omega) (by omega) hlen ho (fun i hi => ?_) hit (fun i hi => ?_) (fun k hk => ?_) ord.length 0 _ (by omega) (by omega)
    · have : rd ord (i : Int) ∈ ord := by
        rw [rd, Int.toNat_natCast, List.getD_eq_getElem?_getD, List.getElem?_eq_getElem hi]
        exact List.getElem_mem _
      exact upTo_mem (hr.perm.mem_iff.1 this)
    · have := List.pairwise_iff_getElem.1 hr.sorted i (i + 1) (by omega) hi (by omega)
      rw [show rd ord (i : Int) = ord[i] by simp [rd, List.getD_eq_getElem?_getD, List.getElem?_eq_getElem (show i < ord.length by omega)], show rd ord ((i + 1 : Nat) : Int) = ord[i + 1] by simp [rd, List.getD_eq_getElem?_getD, hi]]
      exact this
    · exact ex_l1 (machL l1) (feedL (routeL l0) l2) _ _ _ _ r1 r2 ord (by omega) hr.len1 hr.len2 hF hS hr.load1 hr.load2 (fun k hk => (hld k hk).1) (fun k hk => (hld k hk).2) hr.all1 (by rw [hr.all2]; exact ho) hlen (machL l1).length 0 k (by omega) hk
end Go.Proofs.Ytbhcchcjmgfpiaa.Print
