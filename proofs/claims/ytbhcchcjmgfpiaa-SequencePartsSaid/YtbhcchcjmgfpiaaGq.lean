/- SequenceParts' plain law: what its printed function answers is true. -/
import Derived.Test.YtbhcchcjmgfpiaaGzc
import Derived.Test.YtbhcchcjmgfpiaaPpd
namespace Go.Proofs.Ytbhcchcjmgfpiaa.Print
open Go.RowKit Go.Proofs.YtbhcchcjmgfpiaaW.PrintWords Go.Proofs.YtbhcchcjmgfpiaaW.PrintLast Go.Proofs.YtbhcchcjmgfpiaaW.PrintMore
set_option linter.unusedVariables false
set_option linter.unusedSimpArgs false

def keepB (a : Int) (stops : List S27) (id : Int) : Bool := decide ((Go.bits .and .u16 (shr .u16 a (Int.tmod ((posOf stops id : Nat) : Int) 16)) 1) = 1)
theorem keepB_iff (a : Int) (stops : List S27) (id : Int) : keepB a stops id = true ↔ (Go.bits .and .u16 (shr .u16 a (Int.tmod ((posOf stops id : Nat) : Int) 16)) 1) = 1 := by simp [keepB]
theorem tmod16 (p : Nat) : 0 ≤ Int.tmod ((p : Nat) : Int) 16 := Int.tmod_nonneg _ (by omega)
theorem take_filter_len (l : List Int) (p : Int → Bool) (i : Nat) (h : l.length ≤ 2000) : ((l.take i).filter p).length ≤ 2000 := by
  refine Nat.le_trans (List.length_filter_le _ _) ?_
  rw [List.length_take]
  omega
theorem take_rd {l : List Int} {i : Nat} (h : i < l.length) : l.take (i + 1) = l.take i ++ [rd l (i : Int)] := by
  rw [List.take_add_one, List.getElem?_eq_getElem h]
  simp [rd, List.getD_eq_getElem?_getD, h]
theorem rd_mem {l : List Int} {j : Int} (h0 : 0 ≤ j) (h1 : j < l.length) : rd l j ∈ l := by
  rw [rd, List.getD_eq_getElem?_getD, List.getElem?_eq_getElem (show j.toNat < l.length by omega)]
  exact List.getElem_mem _
theorem pa_l2 (some_ want : List Int) (ord : List Int) (ho : ord.length ≤ 2000) (hs : some_.length ≤ 2000) (hmem : ∀ i : Nat, i < ord.length → 0 ≤ rd ord i ∧ rd ord i < some_.length) (hw : ord.map (rd some_) = want) : ∀ (d i k : Nat), i + d = ord.length → d + 2100 < k →
    letterbaglaw28_SequenceParts.l2 k some_ want ((ord.take i).map (rd some_)) ord (ord.length : Int) (i : Int) = some true
  | 0, i, k, h, hk => by
    obtain ⟨k, rfl⟩ : ∃ j, k = j + 1 := ⟨k - 1, by omega⟩
    rw [letterbaglaw28_SequenceParts.l2, if_neg (by omega), List.take_of_length_le (by omega), hw, same_f want (by rw [← hw, List.length_map]; omega) k (by rw [← hw, List.length_map]; omega), Option.bind_some, if_pos rfl]
    rfl
  | d + 1, i, k, h, hk => by
    obtain ⟨k, rfl⟩ : ∃ j, k = j + 1 := ⟨k - 1, by omega⟩
    have hm := hmem i (by omega)
    have ih := pa_l2 some_ want ord ho hs hmem hw d (i + 1) k (by omega) (by omega)
    rw [take_rd (by omega), List.map_append] at ih
    rw [letterbaglaw28_SequenceParts.l2, if_pos (by omega), if_pos (by omega), if_pos (by omega), if_neg (by omega), if_neg (by omega), if_pos (by omega), if_pos (by omega), if_pos (by rw [List.length_map, List.length_take]; omega), wsm _ (by omega) (by omega)]
    exact ih
theorem pa_l1 (a : Int) (stops : List S27) (items some_ want : List Int) (p0 F S : List Int) (s : List S60) (ord q : List Int) (r1 r2 : List (List Int)) (hn : (stops.map (·.f0)).Nodup) (hsl : stops.length ≤ 200) (hi : items.length ≤ 2000) (ho : ord.length ≤ 2000) (hs : some_.length ≤ 2000) (hq : q.length ≤ 2000)
    (hmem : ∀ i : Nat, i < ord.length → 0 ≤ rd ord i ∧ rd ord i < items.length) (hit : ∀ id ∈ items, ∃ p : Nat, ∃ hp : p < stops.length, id = stops[p].f0)
    (hw : (ord.map (rd items)).filter (keepB a stops) = want) (hsort : sequence_Sort.f p0 s F S some_ = some (r1, r2, q, 0)) (hmq : ∀ i : Nat, i < q.length → 0 ≤ rd q i ∧ rd q i < some_.length) (hwq : q.map (rd some_) = want) : ∀ (d i k : Nat), i + d = ord.length → 2 * d + 5000 < k →
    letterbaglaw28_SequenceParts.l1 k a stops items some_ (((ord.take i).map (rd items)).filter (keepB a stops)) ord (ord.length : Int) (i : Int) p0 s F S = some true
  | 0, i, k, h, hk => by
    obtain ⟨k, rfl⟩ : ∃ j, k = j + 1 := ⟨k - 1, by omega⟩
    rw [letterbaglaw28_SequenceParts.l1, if_neg (by omega), hsort, Option.bind_some]
    simp only
    rw [if_pos trivial, List.take_of_length_le (by omega), hw]
    exact pa_l2 some_ want q hq hs hmq hwq q.length 0 k (by omega) (by omega)
  | d + 1, i, k, h, hk => by
    obtain ⟨k, rfl⟩ : ∃ j, k = j + 2 := ⟨k - 2, by omega⟩
    have hm := hmem i (by omega)
    have ih := pa_l1 a stops items some_ want p0 F S s ord q r1 r2 hn hsl hi ho hs hq hmem hit hw hsort hmq hwq d (i + 1) k (by omega) (by omega)
    rw [take_rd (by omega), List.map_append, List.filter_append] at ih
    have hat := at_f stops hn (by omega) (rd items (rd ord (i : Int))) (hit _ (rd_mem hm.1 hm.2)) k (by omega)
    rw [letterbaglaw28_SequenceParts.l1, if_pos (by omega), if_pos (by omega), if_pos (by omega), if_neg (by omega), letterbaglaw28_SequenceParts.j3, if_neg (by simp; omega), if_pos (by omega), if_pos (by omega), hat, Option.bind_some, if_pos (tmod16 _), wsm _ (by omega) (by omega)]
    have hlen : (((ord.take i).map (rd items)).filter (keepB a stops)).length < 17592186044416 := by
      refine Nat.lt_of_le_of_lt (List.length_filter_le _ _) ?_
      rw [List.length_map, List.length_take]
      omega
    by_cases hk2 : keepB a stops (rd items (rd ord (i : Int))) = true
    · rw [if_pos ((keepB_iff _ _ _).1 hk2), if_pos hlen]
      simp only [List.map_cons, List.map_nil, List.filter_cons, hk2, if_true, List.filter_nil] at ih
      exact ih
    · rw [if_neg (fun h => hk2 ((keepB_iff _ _ _).2 h))]
      simp only [List.map_cons, List.map_nil, List.filter_cons, hk2, Bool.false_eq_true, if_false, List.filter_nil, List.append_nil] at ih
      exact ih
theorem pa_l0 (a : Int) (stops : List S27) (items : List Int) (p0 F S : List Int) (s : List S60) (ord : List Int) (r1 r2 : List (List Int)) (hn : (stops.map (·.f0)).Nodup) (hsl : stops.length ≤ 200) (hi : items.length ≤ 2000) (hit : ∀ id ∈ items, ∃ p : Nat, ∃ hp : p < stops.length, id = stops[p].f0)
    (hend : ∀ k, 10000 < k → letterbaglaw28_SequenceParts.l1 k a stops items (items.filter (keepB a stops)) [] ord (ord.length : Int) 0 p0 s F S = some true) : ∀ (d i k : Nat), i + d = items.length → d + 10001 < k →
    letterbaglaw28_SequenceParts.l0 k a stops items ((items.take i).filter (keepB a stops)) items (items.length : Int) (i : Int) p0 s F S r1 r2 ord = some true
  | 0, i, k, h, hk => by
    obtain ⟨k, rfl⟩ : ∃ j, k = j + 1 := ⟨k - 1, by omega⟩
    rw [letterbaglaw28_SequenceParts.l0, if_neg (by omega), List.take_of_length_le (by omega)]
    exact hend k (by omega)
  | d + 1, i, k, h, hk => by
    obtain ⟨k, rfl⟩ : ∃ j, k = j + 1 := ⟨k - 1, by omega⟩
    have ih := pa_l0 a stops items p0 F S s ord r1 r2 hn hsl hi hit hend d (i + 1) k (by omega) (by omega)
    rw [take_rd (by omega), List.filter_append] at ih
    have hat := at_f stops hn (by omega) (rd items (i : Int)) (hit _ (rd_mem (by omega) (by omega))) k (by omega)
    rw [letterbaglaw28_SequenceParts.l0, if_pos (by omega), if_pos (by omega), if_pos (by omega), hat, Option.bind_some, if_pos (tmod16 _), wsm _ (by omega) (by omega)]
    have hlen := take_filter_len items (keepB a stops) i hi
    by_cases hk2 : keepB a stops (rd items (i : Int)) = true
    · rw [if_pos ((keepB_iff _ _ _).1 hk2), if_pos (by omega)]
      simp only [List.filter_cons, hk2, if_true, List.filter_nil] at ih
      exact ih
    · rw [if_neg (fun h => hk2 ((keepB_iff _ _ _).2 h))]
      simp only [List.filter_cons, hk2, Bool.false_eq_true, if_false, List.filter_nil, List.append_nil] at ih
      exact ih
theorem run_mem {stops : List S27} {caps : List Int} {m : Nat} {items : List Int} {r1 r2 : List (List Int)} {ord : List Int} (h : RunOk stops caps m items r1 r2 ord) (i : Nat) (hi : i < ord.length) : 0 ≤ rd ord (i : Int) ∧ rd ord (i : Int) < items.length :=
  upTo_mem (h.perm.mem_iff.1 (rd_mem (by omega) (by omega)))
theorem run_perm {stops : List S27} {caps : List Int} {m : Nat} {items : List Int} {r1 r2 : List (List Int)} {ord : List Int} (h : RunOk stops caps m items r1 r2 ord) : (ord.map (rd items)).Perm items := by
  have := h.perm.map (rd items)
  rwa [upTo_map] at this
theorem run_le {stops : List S27} {caps : List Int} {m : Nat} {items : List Int} {r1 r2 : List (List Int)} {ord : List Int} (h : RunOk stops caps m items r1 r2 ord) : (ord.map (rd items)).Pairwise fun x y => posOf stops x ≤ posOf stops y := by
  rw [List.pairwise_map]
  exact h.sorted.imp (fun {a b} hab => by omega)
set_option maxHeartbeats 1000000 in
theorem sequenceParts_pure (l0 l1 l2 : List Int) (a : Int) (w0 : ∀ x ∈ l0, (Lit.int .u8 x).wf = true) (w1 : ∀ x ∈ l1, (Lit.int .u8 x).wf = true) (w2 : ∀ x ∈ l2, (Lit.int .u8 x).wf = true) (n0 : l0.length ≤ 9223372036854775807) (n1 : l1.length ≤ 9223372036854775807) :
    ∃ k, letterbaglaw28_SequenceParts.f k l0 l1 l2 a = some true := by
  have hv := rd_u8 l0 w0
  have hc := rd_u8 l1 w1
  have hf := law_fit l0 l1 hv hc
  refine ⟨100000, ?_⟩
  unfold letterbaglaw28_SequenceParts.f
  rw [route_f l0 hv n0 100000 (by omega), Option.bind_some, machine_f' l1 hc n1 100000 (by omega), Option.bind_some]
  rcases law_make (routeL l0) (machL l1) hf with hmk | ⟨m, hm, hp, hmk⟩
  · rw [hmk, Option.bind_some]
    rfl
  · obtain ⟨hfe, hit, hlen, r1, r2, ord, hs, hr⟩ := law_run l0 l1 l2 w0 w1 w2 m hm hp
    have hcnt := (feedL_ok (routeL l0) (routeL_nodup l0) (fun x hx => (routeL_mem l0 hv x hx).2.2.1) l2 (fun q hq => by
      have := List.all_eq_true.1 (all_u8 l2 w2) q hq
      simp only [isU8, Bool.and_eq_true, decide_eq_true_eq] at this
      exact this.1)).1
    have hrl := routeL_len l0
    rw [hmk, Option.bind_some]
    simp only
    rw [if_pos trivial, hfe, Option.bind_some, hs, Option.bind_some]
    simp only
    generalize hitems : feedL (routeL l0) l2 = items at *
    have ho : ord.length = items.length := by rw [hr.perm.length_eq, upTo_len]
    obtain ⟨t1, t2, q, hs2, hr2⟩ := run_good (routeL l0) (machL l1) hf m hm hp (routeL_nodup l0) (law_wf l0 hv) (items.filter (keepB a (routeL l0))) (fun id hid => hit id (List.mem_filter.1 hid).1) (fun p hp2 => by
      have h1 := hcnt p hp2
      have h2 : (items.filter (keepB a (routeL l0))).count (routeL l0)[p].f0 ≤ items.count (routeL l0)[p].f0 := List.Sublist.count_le _ List.filter_sublist
      omega) (Nat.le_trans (List.length_filter_le _ _) hlen)
    have hql : q.length = (items.filter (keepB a (routeL l0))).length := by rw [hr2.perm.length_eq, upTo_len]
    have hfl : (items.filter (keepB a (routeL l0))).length ≤ 2000 := Nat.le_trans (List.length_filter_le _ _) hlen
    have hEq : q.map (rd (items.filter (keepB a (routeL l0)))) = (ord.map (rd items)).filter (keepB a (routeL l0)) := by
      refine List.Perm.eq_of_pairwise (le := fun x y => posOf (routeL l0) x ≤ posOf (routeL l0) y) (fun x y hx hy h1 h2 => ?_) (run_le hr2) ((run_le hr).filter _) ((run_perm hr2).trans ((run_perm hr).filter _).symm)
      have hx' := (List.mem_filter.1 ((run_perm hr2).mem_iff.1 hx)).1
      have hy' := (run_perm hr).mem_iff.1 (List.mem_filter.1 hy).1
      obtain ⟨i, hi, rfl⟩ := hit x hx'
      obtain ⟨j, hj, rfl⟩ := hit y hy'
      rw [pos_at _ (routeL_nodup l0) i hi, pos_at _ (routeL_nodup l0) j hj] at h1 h2
      have e : i = j := by omega
      subst e
      rfl
    rw [if_pos trivial, letterbaglaw28_SequenceParts.j0, if_neg (by rw [ho]; simp)]
    refine pa_l0 a (routeL l0) items _ _ _ _ ord r1 r2 (routeL_nodup l0) (by omega) hlen hit (fun k hk => ?_) items.length 0 _ (by omega) (by omega)
    exact pa_l1 a (routeL l0) items _ _ _ _ _ _ ord q t1 t2 (routeL_nodup l0) (by omega) hlen (by omega) hfl (by omega) (fun i hi => run_mem hr i hi) hit rfl hs2 (fun i hi => run_mem hr2 i hi) hEq ord.length 0 k (by omega) (by omega)
end Go.Proofs.Ytbhcchcjmgfpiaa.Print
