/- Plain laws of a run by a plan of Make: the rows of a pass, the order of the route, the loads; what the law feeds is within the volumes. -/
import Derived.Test.YtbhcchcjmgfpiaaGp
import Derived.Test.YtbhcchcjmgfpiaaGsp
import Derived.Test.YtbhcchcjmgfpiaaGef
import Derived.Test.YtbhcchcjmgfpiaaGf
namespace Go.Proofs.Ytbhcchcjmgfpiaa.Print
set_option linter.unusedVariables false
set_option linter.unusedSimpArgs false
open Go.RowKit Go.Proofs.YtbhcchcjmgfpiaaW.PrintWords Go.Proofs.YtbhcchcjmgfpiaaW.PrintLast Go.Proofs.YtbhcchcjmgfpiaaW.PrintMore

/-! ### the rows of a pass -/
def passSpec (n : Nat) (key : Int → Int) (ord : List Int) : List (List Int) := (List.range n).map fun (j : Nat) => ord.filter fun i => decide (key i = (j : Int))
theorem passSpec_snoc (n : Nat) (key : Int → Int) (ord : List Int) (i : Int) (h0 : 0 ≤ key i) (h1 : key i < n) :
    (passSpec n key ord).set (key i).toNat (rd_L4 (passSpec n key ord) (key i) ++ [i]) = passSpec n key (ord ++ [i]) := by
  apply List.ext_getElem
  · simp [passSpec]
  · intro j h2 h3
    have hj : j < n := by simpa [passSpec] using h3
    have hk : (key i).toNat < n := by omega
    rw [List.getElem_set]
    have e2 : (passSpec n key (ord ++ [i]))[j] = ord.filter (fun i => decide (key i = (j : Int))) ++ [i].filter (fun i => decide (key i = (j : Int))) := by simp [passSpec]
    rw [e2]
    split
    · rename_i he
      have hej : key i = (j : Int) := by omega
      have e3 : rd_L4 (passSpec n key ord) (key i) = ord.filter (fun i => decide (key i = (j : Int))) := by
        rw [hej]
        simp [rd_L4, passSpec, List.getD_eq_getElem?_getD, hj]
      rw [e3]
      simp [hej]
    · rename_i he
      have hej : ¬ key i = (j : Int) := by omega
      simp [passSpec, hej]
theorem passRows_spec (n : Nat) (key : Int → Int) (ord : List Int) (h : ∀ i ∈ ord, 0 ≤ key i ∧ key i < n) : passRows n key ord = passSpec n key ord := by
  have hg : ∀ (xs pre : List Int), (∀ i ∈ xs, 0 ≤ key i ∧ key i < n) → xs.foldl (fun rows i => rows.set (key i).toNat (rd_L4 rows (key i) ++ [i])) (passSpec n key pre) = passSpec n key (pre ++ xs) := by
    intro xs
    induction xs with
    | nil => intro pre _; simp
    | cons i xs ih =>
      intro pre hx
      rw [List.foldl_cons, passSpec_snoc n key pre i (hx i (by simp)).1 (hx i (by simp)).2, ih _ (fun j hj => hx j (by simp [hj])), List.append_assoc]
      rfl
  have := hg ord [] h
  have e0 : passSpec n key [] = List.replicate n [] := by
    apply List.ext_getElem
    · simp [passSpec]
    · intro j h2 h3; simp [passSpec]
  rw [e0] at this
  exact this
theorem spec_pairwise (n : Nat) (key : Int → Int) (R : Int → Int → Prop) (ord : List Int) (h : ord.Pairwise R) :
    (passSpec n key ord).flatten.Pairwise (fun x y => key x < key y ∨ (key x = key y ∧ R x y)) := by
  rw [List.pairwise_flatten]
  constructor
  · intro l hl
    simp only [passSpec, List.mem_map, List.mem_range] at hl
    obtain ⟨j, _, rfl⟩ := hl
    have := (List.pairwise_filter (p := fun i => decide (key i = (j : Int)))).2 (h.imp (fun {a b} hab _ _ => hab))
    refine (List.Pairwise.imp_of_mem ?_ this)
    intro a b ha hb hab
    have h1 := (List.mem_filter.1 ha).2
    have h2 := (List.mem_filter.1 hb).2
    simp only [decide_eq_true_eq] at h1 h2
    exact .inr ⟨by omega, hab⟩
  · unfold passSpec
    rw [List.pairwise_map]
    refine (List.pairwise_lt_range (n := n)).imp ?_
    intro j1 j2 hj a ha b hb
    have h1 := (List.mem_filter.1 ha).2
    have h2 := (List.mem_filter.1 hb).2
    simp only [decide_eq_true_eq] at h1 h2
    exact .inl (by omega)
theorem spec_perm (n : Nat) (key : Int → Int) : ∀ (ord : List Int), (∀ i ∈ ord, 0 ≤ key i ∧ key i < n) → (passSpec n key ord).flatten.Perm ord := by
  intro ord h
  rw [List.perm_iff_count]
  intro a
  rw [List.count_flatten]
  unfold passSpec
  rw [List.map_map]
  have hc : ∀ j : Nat, (List.count a ∘ fun (j : Nat) => ord.filter fun i => decide (key i = (j : Int))) j = if key a = (j : Int) then ord.count a else 0 := by
    intro j
    simp only [Function.comp_apply]
    by_cases hk : key a = (j : Int)
    · rw [if_pos hk, List.count_filter (by simpa using hk)]
    · rw [if_neg hk, List.count_eq_zero]
      intro hm
      have := (List.mem_filter.1 hm).2
      simp only [decide_eq_true_eq] at this
      exact hk this
  rw [List.map_congr_left (fun j _ => hc j)]
  have hs : ∀ (m : Nat) (x : Int) (c : Nat), ((List.range m).map fun (j : Nat) => if x = (j : Int) then c else 0).sum = if 0 ≤ x ∧ x < m then c else 0 := by
    intro m x c
    induction m with
    | zero => rw [if_neg (by omega)]; rfl
    | succ m ih =>
      rw [List.range_succ, List.map_append, List.sum_append, ih]
      simp only [List.map_cons, List.map_nil, List.sum_cons, List.sum_nil, Nat.add_zero]
      by_cases hx : x = (m : Int)
      · rw [if_pos hx, if_neg (by omega), if_pos (by omega)]; omega
      · rw [if_neg hx]
        by_cases hy : 0 ≤ x ∧ x < m
        · rw [if_pos hy, if_pos (by omega)]; rfl
        · rw [if_neg hy, if_neg (by omega)]
  rw [hs]
  by_cases ha : a ∈ ord
  · rw [if_pos (h a ha)]
  · rw [List.count_eq_zero_of_not_mem ha]
    split <;> rfl

/-! ### places -/
def posOf (stops : List S27) (id : Int) : Nat := stops.findIdx fun x => x.f0 == id
theorem nodup_get {α : Type} {l : List α} (h : l.Nodup) {i j : Nat} (hi : i < l.length) (hj : j < l.length) (e : l[i] = l[j]) : i = j := by
  rcases Nat.lt_trichotomy i j with h1 | h1 | h1
  · exact absurd e (List.pairwise_iff_getElem.1 h i j hi hj h1)
  · exact h1
  · exact absurd e.symm (List.pairwise_iff_getElem.1 h j i hj hi h1)
theorem place_at (s : List S60) (hn : (s.map (·.f0)).Nodup) (p : Nat) (hp : p < s.length) : placeOf s s[p].f0 = some s[p] := by
  unfold placeOf
  cases h : s.reverse.find? (fun x => x.f0 == s[p].f0) with
  | none =>
    have := List.find?_eq_none.1 h s[p] (by simp)
    simp at this
  | some x =>
    obtain ⟨hx, he⟩ := placeOf_mem (s := s) (a := s[p].f0) (x := x) h
    obtain ⟨q, hq, rfl⟩ := List.getElem_of_mem hx
    have : q = p := nodup_get hn (i := q) (j := p) (by simpa using hq) (by simpa using hp) (by simpa using he)
    subst this
    rfl
theorem pos_at (stops : List S27) (hn : (stops.map (·.f0)).Nodup) (p : Nat) (hp : p < stops.length) : posOf stops stops[p].f0 = p := by
  unfold posOf
  rw [List.findIdx_eq hp]
  refine ⟨by simp, fun j hj => ?_⟩
  have hne : ¬ stops[j].f0 = stops[p].f0 := fun e => by
    have : j = p := nodup_get hn (i := j) (j := p) (by simp; omega) (by simpa using hp) (by simpa using e)
    omega
  simpa using hne
theorem sortScan_fine (s : List S60) : ∀ (xs pre : List Int), (∀ id ∈ xs, ∃ x, placeOf s id = some x ∧ (((pre ++ xs).count id : Nat) : Int) ≤ x.f1) → sortScan s pre xs = 0
  | [], _, _ => rfl
  | y :: ys, pre, h => by
    obtain ⟨x, hx, hc⟩ := h y (by simp)
    rw [sortScan, hx]
    simp only
    rw [if_neg (by
      rw [List.count_append, List.count_cons_self] at hc
      omega)]
    refine sortScan_fine s ys (pre ++ [y]) (fun id hid => ?_)
    rw [List.append_assoc]
    exact h id (List.mem_cons_of_mem _ hid)
theorem upTo_map (items : List Int) : (upTo items.length).map (rd items) = items := by
  apply List.ext_getElem
  · simp [upTo]
  · intro i h1 h2
    simp [upTo, rd, List.getD_eq_getElem?_getD, h2]
theorem upTo_lt (n : Nat) : (upTo n).Pairwise (· < ·) := by
  unfold upTo
  rw [List.pairwise_map]
  exact (List.pairwise_lt_range (n := n)).imp (fun {a b} h => by simpa using h)

/-! ### a stacker holds no more than its load -/
def sumSel (sel : S60 → Int) (j : Int) : List S60 → Int
  | [] => 0
  | x :: xs => (if sel x = j then x.f1 else 0) + sumSel sel j xs
theorem sumSel_F (j : Int) : ∀ l, sumSel (fun x => x.f2) j l = sumF j l
  | [] => rfl
  | x :: xs => by rw [sumSel, sumF, sumSel_F j xs]
theorem sumSel_S (j : Int) : ∀ l, sumSel (fun x => x.f3) j l = sumOn j l
  | [] => rfl
  | x :: xs => by rw [sumSel, sumOn, sumSel_S j xs]
theorem countP_or_le (p q : Int → Bool) : ∀ (l : List Int), l.countP (fun a => p a || q a) ≤ l.countP p + l.countP q
  | [] => by simp
  | x :: xs => by
    have := countP_or_le p q xs
    simp only [List.countP_cons]
    cases p x <;> cases q x <;> simp <;> omega
theorem cnt_le (sel : S60 → Int) (j : Int) (items : List Int) : ∀ (s : List S60), (∀ x ∈ s, ((items.count x.f0 : Nat) : Int) ≤ x.f1) → ((items.countP (fun id => s.any fun x => x.f0 == id && decide (sel x = j)) : Nat) : Int) ≤ sumSel sel j s
  | [], _ => by simp [sumSel]
  | x :: xs, h => by
    have ih := cnt_le sel j items xs (fun y hy => h y (List.mem_cons_of_mem _ hy))
    have h1 := countP_or_le (fun id => x.f0 == id && decide (sel x = j)) (fun id => xs.any fun x => x.f0 == id && decide (sel x = j)) items
    have h2 := h x (by simp)
    have h3 : items.countP (fun id => x.f0 == id && decide (sel x = j)) ≤ if sel x = j then items.count x.f0 else 0 := by
      split
      · rename_i e
        simp only [e, decide_true, Bool.and_true]
        unfold List.count
        refine Nat.le_of_eq (List.countP_congr (fun a _ => ?_))
        simp only [beq_iff_eq]
        exact ⟨fun h => h.symm, fun h => h.symm⟩
      · rename_i e
        simp [e]
    rw [sumSel]
    simp only [List.any_cons]
    split at h3 <;> rename_i e
    · rw [if_pos e]; omega
    · rw [if_neg e]; omega

/-! ### what the law feeds is within the volumes -/
def FeedOk (stops : List S27) (left out : List Int) : Prop :=
  left.length = stops.length ∧ (∀ p : Nat, ∀ hp : p < stops.length, rd left (p : Int) = ((out.count stops[p].f0 : Nat) : Int) ∧ ((out.count stops[p].f0 : Nat) : Int) ≤ stops[p].f1) ∧ ∀ id ∈ out, ∃ p : Nat, ∃ hp : p < stops.length, id = stops[p].f0
theorem rd_set (l : List Int) (j : Nat) (x : Int) (hj : j < l.length) (i : Nat) : rd (l.set j x) (i : Int) = if i = j then x else rd l (i : Int) := by
  simp only [rd, Int.toNat_natCast, List.getD_eq_getElem?_getD, List.getElem?_set]
  by_cases h : j = i
  · subst h
    simp [hj]
  · rw [if_neg h, if_neg (fun e => h e.symm)]
theorem feedStep_ok (stops : List S27) (hn : (stops.map (·.f0)).Nodup) (h0 : 0 < stops.length) (s : List Int × List Int) (q : Int) (hq : 0 ≤ q) (h : FeedOk stops s.1 s.2) : FeedOk stops (feedStep stops s q).1 (feedStep stops s q).2 := by
  obtain ⟨hl, hc, hm⟩ := h
  unfold feedStep
  have hk0 : 0 ≤ q % (stops.length : Int) := Int.emod_nonneg _ (by omega)
  have hk1 : q % (stops.length : Int) < stops.length := Int.emod_lt_of_pos _ (by omega)
  obtain ⟨k, hk⟩ := Int.eq_ofNat_of_zero_le hk0
  have hkl : k < stops.length := by omega
  have hs : rd_T27 stops (k : Int) = stops[k] := by simp [rd_T27, List.getD_eq_getElem?_getD, List.getElem?_eq_getElem hkl]
  simp only [hk, hs, Int.toNat_natCast]
  split
  · rename_i hv
    refine ⟨by simpa using hl, fun p hp => ?_, fun id hid => ?_⟩
    · obtain ⟨h1, h2⟩ := hc p hp
      rw [rd_set _ _ _ (by omega), List.count_append, List.count_singleton]
      by_cases e : p = k
      · subst e
        rw [if_pos rfl, if_pos (by simp)]
        omega
      · have hne : ¬ stops[k].f0 = stops[p].f0 := fun e2 => e (nodup_get hn (i := p) (j := k) (by simpa using hp) (by simpa using hkl) (by simpa using e2.symm))
        rw [if_neg e, if_neg (by simpa using hne)]
        exact ⟨by simpa using h1, by simpa using h2⟩
    · rcases List.mem_append.1 hid with h1 | h1
      · exact hm id h1
      · exact ⟨k, hkl, by simpa using h1⟩
  · exact ⟨hl, hc, hm⟩
theorem feedL_ok (stops : List S27) (hn : (stops.map (·.f0)).Nodup) (hv : ∀ x ∈ stops, 1 ≤ x.f1) (picks : List Int) (hp : ∀ q ∈ picks, 0 ≤ q) :
    (∀ p : Nat, ∀ hp : p < stops.length, (((feedL stops picks).count stops[p].f0 : Nat) : Int) ≤ stops[p].f1) ∧ (∀ id ∈ feedL stops picks, ∃ p : Nat, ∃ hp : p < stops.length, id = stops[p].f0) ∧ (feedL stops picks).length ≤ 2000 := by
  unfold feedL
  split
  · rename_i h0
    exact ⟨fun p hp => by omega, fun id h => (by cases h), by simp⟩
  · rename_i h0
    have hg : ∀ (ps : List Int) (s : List Int × List Int), (∀ q ∈ ps, 0 ≤ q) → FeedOk stops s.1 s.2 → FeedOk stops (ps.foldl (feedStep stops) s).1 (ps.foldl (feedStep stops) s).2 := by
      intro ps
      induction ps with
      | nil => intro s _ h; exact h
      | cons q ps ih => intro s hq h; exact ih _ (fun x hx => hq x (List.mem_cons_of_mem _ hx)) (feedStep_ok stops hn (by omega) s q (hq q (by simp)) h)
    have h1 : FeedOk stops (feedAll stops (picks.take 2000)).1 (feedAll stops (picks.take 2000)).2 := hg _ _ (fun q hq => hp q (List.mem_of_mem_take hq)) ⟨by simp, fun p hp => ⟨by simp [rd, List.getD_eq_getElem?_getD, List.getElem?_replicate, hp], by have := hv stops[p] (List.getElem_mem hp); simp; omega⟩, fun id h => by cases h⟩
    refine ⟨fun p hp => (h1.2.1 p hp).2, h1.2.2, ?_⟩
    have := (feedAll_len stops (picks.take 2000)).2
    rw [List.length_take] at this
    omega

/-! ### a run by a plan of Make -/
structure RunOk (stops : List S27) (caps : List Int) (m : Nat) (items : List Int) (r1 r2 : List (List Int)) (ord : List Int) : Prop where
  perm : ord.Perm (upTo items.length)
  sorted : ord.Pairwise fun i j => posOf stops (rd items i) < posOf stops (rd items j) ∨ (posOf stops (rd items i) = posOf stops (rd items j) ∧ i < j)
  len1 : r1.length = caps.length
  len2 : r2.length = caps.length
  load1 : ∀ k : Nat, k < caps.length → ((rd_L4 r1 k).length : Int) ≤ rd (loadsF caps.length (seatL caps m 0 0 0 stops)) k
  load2 : ∀ k : Nat, k < caps.length → ((rd_L4 r2 k).length : Int) ≤ rd (loadsS caps.length (seatL caps m 0 0 0 stops)) k
  all1 : r1.flatten.length = items.length
  all2 : r2.flatten = ord
theorem plan_seats (stops : List S27) (caps : List Int) (hf : Fit stops caps) (m : Nat) (hm : m ≤ caps.length) (hp : planOk stops caps m = true) :
    stopsOf (seatL caps m 0 0 0 stops) = stops ∧ (∀ x ∈ seatL caps m 0 0 0 stops, GoodSeat caps.length x) ∧ (seatL caps m 0 0 0 stops).Pairwise seatLt := by
  have hv := hf.vol
  obtain ⟨hmc, hl, t, ht, htn⟩ := hf
  simp only [planOk, Bool.and_eq_true, decide_eq_true_eq] at hp
  obtain ⟨f1, f2, f3, f4⟩ := seatL_facts caps m (by omega) stops 0 0 0 hv (by omega) (by omega) (by omega)
  rw [show ((0 : Nat) : Int) = 0 from rfl] at f1 f2 f3 f4
  exact ⟨by rw [f1, hp.1, List.take_length], fun x hx => (f2 x hx).1, f3⟩
theorem countP_key (n : Nat) (key : Int → Int) (ord : List Int) (k : Nat) (hk : k < n) : (rd_L4 (passSpec n key ord) (k : Int)).length = ord.countP (fun i => decide (key i = (k : Int))) := by
  have : rd_L4 (passSpec n key ord) (k : Int) = ord.filter (fun i => decide (key i = (k : Int))) := by simp [rd_L4, passSpec, List.getD_eq_getElem?_getD, hk]
  rw [this, List.countP_eq_length_filter]
theorem run_sort (stops : List S27) (caps : List Int) (hf : Fit stops caps) (m : Nat) (hm : m ≤ caps.length) (hp : planOk stops caps m = true) (hn : (stops.map (·.f0)).Nodup) (hw : ∀ x ∈ stops, (Lit.int .i64 x.f0).wf = true)
    (items : List Int) (hit : ∀ id ∈ items, ∃ p : Nat, ∃ hp : p < stops.length, id = stops[p].f0) (hcnt : ∀ p : Nat, ∀ hp : p < stops.length, ((items.count stops[p].f0 : Nat) : Int) ≤ stops[p].f1) (hlen : items.length ≤ 2000) :
    sequence_Sort.f caps (seatL caps m 0 0 0 stops) (loadsF caps.length (seatL caps m 0 0 0 stops)) (loadsS caps.length (seatL caps m 0 0 0 stops)) items = some (firstRows caps.length (seatL caps m 0 0 0 stops) items, secondRows caps.length (seatL caps m 0 0 0 stops) items, (secondRows caps.length (seatL caps m 0 0 0 stops) items).flatten, 0) ∧
      RunOk stops caps m items (firstRows caps.length (seatL caps m 0 0 0 stops) items) (secondRows caps.length (seatL caps m 0 0 0 stops) items) (secondRows caps.length (seatL caps m 0 0 0 stops) items).flatten ∧
      ∀ id ∈ items, ∃ x, (seatL caps m 0 0 0 stops).find? (isStop id) = some x ∧ placeOf (seatL caps m 0 0 0 stops) id = some x ∧ x.f0 = id ∧ 0 ≤ x.f2 ∧ x.f2 < caps.length ∧ 0 ≤ x.f3 ∧ x.f3 < caps.length := by
  obtain ⟨e1, e2, e3⟩ := plan_seats stops caps hf m hm hp
  have hck : sequence_Check.f caps (seatL caps m 0 0 0 stops) (loadsF caps.length (seatL caps m 0 0 0 stops)) (loadsS caps.length (seatL caps m 0 0 0 stops)) = some (0, 0) := check_seats stops caps hf m hm hp
  obtain ⟨hn1, hn2, hcap⟩ := machine_true hf.1
  have hF := loadsF_sum caps.length (seatL caps m 0 0 0 stops) (fun x hx => by have := e2 x hx; unfold GoodSeat at this; omega)
  have hS := loadsS_sum caps.length (seatL caps m 0 0 0 stops) (fun x hx => by have := e2 x hx; unfold GoodSeat at this; omega)
  have hs0 : ∃ s, s = seatL caps m 0 0 0 stops := ⟨_, rfl⟩
  obtain ⟨s, hs⟩ := hs0
  rw [← hs] at e1 e2 e3 hck hF hS ⊢
  have hsl : s.length = stops.length := by
    have := congrArg List.length e1
    simpa [stopsOf] using this
  have hsf : ∀ p (hp : p < stops.length), s[p].f0 = stops[p].f0 ∧ s[p].f1 = stops[p].f1 := fun p hp => by
    have h1 : (stopsOf s)[p]? = stops[p]? := by rw [e1]
    simp only [stopsOf, List.getElem?_map, List.getElem?_eq_getElem (show p < s.length by omega), List.getElem?_eq_getElem hp, Option.map_some, Option.some.injEq] at h1
    rw [← h1]
    exact ⟨rfl, rfl⟩
  have hns : (s.map (·.f0)).Nodup := by
    have : s.map (·.f0) = stops.map (·.f0) := by
      rw [← e1]
      simp [stopsOf]
    rw [this]
    exact hn
  have hplace : ∀ id ∈ items, ∃ p : Nat, ∃ hp : p < s.length, placeOf s id = some s[p] ∧ posOf stops id = p ∧ ((items.count id : Nat) : Int) ≤ s[p].f1 ∧ s[p].f0 = id := fun id hid => by
    obtain ⟨p, hp, rfl⟩ := hit id hid
    refine ⟨p, by omega, ?_, pos_at stops hn p hp, ?_, (hsf p hp).1⟩
    · rw [← (hsf p hp).1]
      exact place_at s hns p (by omega)
    · rw [(hsf p hp).2]
      exact hcnt p hp
  have hidx : ∀ i ∈ upTo items.length, ∃ p : Nat, ∃ hp : p < s.length, placeOf s (rd items i) = some s[p] ∧ posOf stops (rd items i) = p ∧ s[p].f0 = rd items i := fun i hi => by
    obtain ⟨h0, h1⟩ := upTo_mem hi
    have hmem : rd items i ∈ items := by
      rw [rd, List.getD_eq_getElem?_getD, List.getElem?_eq_getElem (show i.toNat < items.length by omega)]
      exact List.getElem_mem _
    obtain ⟨p, hp, h2, h3, _, h4⟩ := hplace _ hmem
    exact ⟨p, hp, h2, h3, h4⟩
  have hg : ∀ p (hp : p < s.length), GoodSeat caps.length s[p] := fun p hp => e2 _ (List.getElem_mem hp)
  have hk1 : ∀ i ∈ upTo items.length, 0 ≤ keyFirst s items i ∧ keyFirst s items i < caps.length := fun i hi => by
    obtain ⟨p, hp, h2, _⟩ := hidx i hi
    have := hg p hp
    unfold GoodSeat at this
    simp only [keyFirst, h2]
    omega
  have hr1 : firstRows caps.length s items = passSpec caps.length (keyFirst s items) (upTo items.length) := passRows_spec _ _ _ hk1
  have hperm1 := spec_perm caps.length (keyFirst s items) (upTo items.length) hk1
  have hk2 : ∀ i ∈ (passSpec caps.length (keyFirst s items) (upTo items.length)).flatten, 0 ≤ keySecond s items i ∧ keySecond s items i < caps.length := fun i hi => by
    obtain ⟨p, hp, h2, _⟩ := hidx i (hperm1.mem_iff.1 hi)
    have := hg p hp
    unfold GoodSeat at this
    simp only [keySecond, h2]
    omega
  have hr2 : secondRows caps.length s items = passSpec caps.length (keySecond s items) (passSpec caps.length (keyFirst s items) (upTo items.length)).flatten := by
    unfold secondRows
    rw [hr1]
    exact passRows_spec _ _ _ hk2
  have hperm2 := (spec_perm caps.length (keySecond s items) _ hk2).trans hperm1
  refine ⟨?_, ?_, fun id hid => ?_⟩
  · unfold sequence_Sort.f
    rw [if_pos (by
      simp only [Bool.and_eq_true, List.all_eq_true]
      refine ⟨fun x hx => ?_, fun id hid => ?_⟩
      · obtain ⟨p, hp, rfl⟩ := List.getElem_of_mem hx
        rw [(hsf p (by omega)).1]
        exact hw _ (List.getElem_mem _)
      · obtain ⟨p, hp, rfl⟩ := hit id hid
        exact hw _ (List.getElem_mem _)), hck]
    simp only
    rw [if_pos trivial, if_neg (by omega), if_pos (sortScan_fine s items [] (fun id hid => by
      obtain ⟨p, hp, h2, _, h3, _⟩ := hplace id hid
      exact ⟨_, h2, by simpa using h3⟩)), if_pos ⟨hn1, by omega, by
      unfold seatsIn
      rw [List.all_eq_true]
      intro x hx
      have := e2 x hx
      unfold GoodSeat at this
      simp only [Bool.and_eq_true, decide_eq_true_eq]
      omega⟩]
  · have hload : ∀ (sel : S60 → Int) (key : Int → Int) (hkey : ∀ i ∈ upTo items.length, ∀ p (hp : p < s.length), placeOf s (rd items i) = some s[p] → key i = sel s[p]) (k : Nat), (((upTo items.length).countP (fun i => decide (key i = (k : Int))) : Nat) : Int) ≤ sumSel sel k s := by
      intro sel key hkey k
      have h1 : (upTo items.length).countP (fun i => decide (key i = (k : Int))) ≤ items.countP (fun id => s.any fun x => x.f0 == id && decide (sel x = (k : Int))) := by
        conv => rhs; rw [← upTo_map items, List.countP_map]
        refine List.countP_mono_left (fun i hi h => ?_)
        obtain ⟨p, hp, h2, _, h4⟩ := hidx i hi
        simp only [decide_eq_true_eq] at h
        simp only [Function.comp_apply, List.any_eq_true, Bool.and_eq_true, decide_eq_true_eq]
        refine ⟨s[p], List.getElem_mem hp, by simpa using h4, ?_⟩
        rw [← hkey i hi p hp h2]
        exact h
      have h2 := cnt_le sel k items s (fun x hx => by
        obtain ⟨p, hp, rfl⟩ := List.getElem_of_mem hx
        rw [(hsf p (by omega)).1, (hsf p (by omega)).2]
        exact hcnt p (by omega))
      omega
    refine ⟨?_, ?_, ?_, ?_, fun k hk => ?_, fun k hk => ?_, ?_, rfl⟩
    · rw [hr2]; exact hperm2
    · rw [hr2]
      refine List.Pairwise.imp_of_mem ?_ (spec_pairwise caps.length (keySecond s items) _ _ (spec_pairwise caps.length (keyFirst s items) _ _ (upTo_lt items.length)))
      intro a b ha hb hab
      obtain ⟨p, hp, h2, h3, _⟩ := hidx a (hperm2.mem_iff.1 ha)
      obtain ⟨q, hq, h4, h5, _⟩ := hidx b (hperm2.mem_iff.1 hb)
      rw [h3, h5]
      simp only [keyFirst, keySecond, h2, h4] at hab
      rcases Nat.lt_trichotomy p q with h | h | h
      · exact .inl h
      · subst h
        exact .inr ⟨rfl, by omega⟩
      · have := List.pairwise_iff_getElem.1 e3 q p hq hp h
        unfold seatLt at this
        omega
    · rw [hr1]; simp [passSpec]
    · rw [hr2]; simp [passSpec]
    · rw [hr1, countP_key _ _ _ k hk, ← hs, hF k (by omega), ← sumSel_F]
      exact hload (fun x => x.f2) _ (fun i hi p hp h => by simp [keyFirst, h]) k
    · rw [hr2, countP_key _ _ _ k hk, ← hs, hS k (by omega), ← sumSel_S, hperm1.countP_eq]
      exact hload (fun x => x.f3) _ (fun i hi p hp h => by simp [keySecond, h]) k
    · rw [hr1, hperm1.length_eq, upTo_len]
  · obtain ⟨p, hp, h2, _, _, h4⟩ := hplace id hid
    have := hg p hp
    unfold GoodSeat at this
    refine ⟨s[p], ?_, h2, h4, by omega, by omega, by omega, by omega⟩
    cases h : s.find? (isStop id) with
    | none =>
      have := List.find?_eq_none.1 h s[p] (List.getElem_mem hp)
      simp [isStop, h4] at this
    | some x =>
      have hx := List.mem_of_find?_eq_some h
      have he := List.find?_some h
      simp only [isStop, beq_iff_eq] at he
      obtain ⟨q, hq, rfl⟩ := List.getElem_of_mem hx
      have : q = p := nodup_get hns (i := q) (j := p) (by simpa using hq) (by simpa using hp) (by simpa [h4] using he)
      subst this
      rfl
theorem run_good (stops : List S27) (caps : List Int) (hf : Fit stops caps) (m : Nat) (hm : m ≤ caps.length) (hp : planOk stops caps m = true) (hn : (stops.map (·.f0)).Nodup) (hw : ∀ x ∈ stops, (Lit.int .i64 x.f0).wf = true)
    (items : List Int) (hit : ∀ id ∈ items, ∃ p : Nat, ∃ hp : p < stops.length, id = stops[p].f0) (hcnt : ∀ p : Nat, ∀ hp : p < stops.length, ((items.count stops[p].f0 : Nat) : Int) ≤ stops[p].f1) (hlen : items.length ≤ 2000) :
    ∃ r1 r2 ord, sequence_Sort.f caps (seatL caps m 0 0 0 stops) (loadsF caps.length (seatL caps m 0 0 0 stops)) (loadsS caps.length (seatL caps m 0 0 0 stops)) items = some (r1, r2, ord, 0) ∧ RunOk stops caps m items r1 r2 ord :=
  ⟨_, _, _, (run_sort stops caps hf m hm hp hn hw items hit hcnt hlen).1, (run_sort stops caps hf m hm hp hn hw items hit hcnt hlen).2.1⟩
end Go.Proofs.Ytbhcchcjmgfpiaa.Print
