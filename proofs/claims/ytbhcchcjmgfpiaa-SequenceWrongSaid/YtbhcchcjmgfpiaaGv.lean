/- SequenceWrong's plain law: what Make and Sort answer to what is not valid. Plain Lean. -/
import Derived.Test.YtbhcchcjmgfpiaaGzc
namespace Go.Proofs.Ytbhcchcjmgfpiaa.Print
open Go.RowKit Go.Proofs.YtbhcchcjmgfpiaaW.PrintWords Go.Proofs.YtbhcchcjmgfpiaaW.PrintLast Go.Proofs.YtbhcchcjmgfpiaaW.PrintMore

theorem make_caps (l0 : List S27) (l1 : List Int) (h : sequence_machine.f l1 = some false) : sequence_Make.f l0 l1 = some ([], [], [], [], 280) := by
  unfold sequence_Make.f
  rw [h]
  rfl
theorem make_many (l0 : List S27) (l1 : List Int) (h : sequence_machine.f l1 = some true) (hl : 1000 < l0.length) : sequence_Make.f l0 l1 = some ([], [], [], [], 5) := by
  unfold sequence_Make.f
  rw [h, Option.bind_some, if_pos rfl, if_pos (by omega)]
theorem make_stop (l0 : List S27) (l1 : List Int) (h : sequence_machine.f l1 = some true) (hl : l0.length ≤ 1000) (hw : ∀ x ∈ l0, wfI x.f0 = true) (x : S27) (hx : x ∈ l0) (hb : badStop x = true) : sequence_Make.f l0 l1 = some ([], [], [], [], 281) := by
  unfold sequence_Make.f
  have h1 : sequence_wrong.f l0 = some (wrongFrom [] 0 l0) := by
    unfold sequence_wrong.f
    rw [if_pos (List.all_eq_true.2 hw)]
  rw [h, Option.bind_some, if_pos rfl, if_neg (by omega), h1, Option.bind_some, if_pos]
  by_cases h2 : wrongFrom [] 0 l0 < 0
  · have := wrongFrom_neg l0 [] 0 h2 x hx
    rw [this] at hb
    cases hb
  · omega
theorem sumF_ge (j : Int) (x : S60) : ∀ (l : List S60), (∀ y ∈ l, 0 ≤ y.f1) → x ∈ l → x.f2 = j → x.f1 ≤ sumF j l
  | [], _, h, _ => by cases h
  | y :: ys, hp, h, hj => by
    have hy := hp y (by simp)
    have hn : 0 ≤ sumF j ys := by
      have : ∀ (l : List S60), (∀ y ∈ l, 0 ≤ y.f1) → 0 ≤ sumF j l := by
        intro l
        induction l with
        | nil => intro _; simp [sumF]
        | cons z zs ih =>
          intro hz
          have h1 := ih (fun y hy => hz y (List.mem_cons_of_mem _ hy))
          have h2 := hz z (by simp)
          rw [sumF]
          split <;> omega
      exact this ys (fun z hz => hp z (List.mem_cons_of_mem _ hz))
    rw [sumF]
    rcases List.mem_cons.1 h with rfl | h
    · rw [if_pos hj]
      omega
    · have := sumF_ge j x ys (fun z hz => hp z (List.mem_cons_of_mem _ hz)) h hj
      split <;> omega
/-- A stop greater than every stacker: no plan. -/
theorem make_great (stops : List S27) (caps : List Int) (hf : Fit stops caps) (x : S27) (hx : x ∈ stops) (hg : ∀ c ∈ caps, c < x.f1) : sequence_Make.f stops caps = some ([], [], [], [], 4) := by
  rcases law_make stops caps hf with h | ⟨m, hm, hp, _⟩
  · exact h
  · exfalso
    obtain ⟨e1, e2, e3⟩ := plan_seats stops caps hf m hm hp
    have hl := (loads_caps stops caps hf m hm hp).2
    rw [← e1] at hx
    obtain ⟨s, hs, rfl⟩ := List.mem_map.1 hx
    have hgs := e2 s hs
    have hall : ∀ y ∈ seatL caps m 0 0 0 stops, 0 ≤ y.f2 ∧ y.f2 < caps.length := fun y hy => by have := e2 y hy; unfold GoodSeat at this; omega
    have hpos : ∀ y ∈ seatL caps m 0 0 0 stops, 0 ≤ y.f1 := fun y hy => by have := e2 y hy; unfold GoodSeat at this; omega
    obtain ⟨h0, h1⟩ := hall s hs
    have h2 := (hl s.f2.toNat (by omega)).1
    have he : ((s.f2.toNat : Nat) : Int) = s.f2 := by omega
    rw [he, loadsF_sum _ _ hall s.f2 h0] at h2
    have h3 := sumF_ge s.f2 s _ hpos hs rfl
    have h4 : rd caps s.f2 ∈ caps := by
      rw [rd, List.getD_eq_getElem?_getD, List.getElem?_eq_getElem (show s.f2.toNat < caps.length by omega)]
      exact List.getElem_mem _
    have := hg _ h4
    simp only at this
    omega
/-- The route and one stop more. -/
theorem more_fit (vols caps : List Int) (hv : ∀ i : Nat, 0 ≤ rd vols (i : Int) ∧ rd vols (i : Int) ≤ 255) (hc : ∀ i : Nat, 0 ≤ rd caps (i : Int) ∧ rd caps (i : Int) ≤ 255) : Fit (routeL vols ++ [⟨999999, 257⟩]) (machL caps) := by
  obtain ⟨h1, h2, h3⟩ := machL_ok caps hc
  refine ⟨(law_fit vols caps hv hc).1, by rw [List.length_append, routeL_len]; simp only [List.length_singleton]; omega, -1, ?_, by decide⟩
  unfold sequence_wrong.f
  rw [if_pos, wrongFrom_fine]
  · intro x hx
    rcases List.mem_append.1 hx with hx | hx
    · have := routeL_mem vols hv x hx
      simp [badStop]
      omega
    · rw [List.mem_singleton.1 hx]
      rfl
  · rw [List.nil_append, List.map_append, List.nodup_append]
    refine ⟨routeL_nodup vols, by simp, fun a ha b hb => ?_⟩
    obtain ⟨x, hx, rfl⟩ := List.mem_map.1 ha
    have := routeL_mem vols hv x hx
    simp only [List.map_cons, List.map_nil, List.mem_singleton] at hb
    omega
  · rw [List.all_eq_true]
    intro x hx
    rcases List.mem_append.1 hx with hx | hx
    · exact law_wf vols hv x hx
    · rw [List.mem_singleton.1 hx]
      decide
/-! ### Sort -/
theorem sortScan_app (s : List S60) (ys : List Int) : ∀ (xs pre : List Int), (∀ id ∈ xs, ∃ x, placeOf s id = some x ∧ (((pre ++ xs).count id : Nat) : Int) ≤ x.f1) → sortScan s pre (xs ++ ys) = sortScan s (pre ++ xs) ys
  | [], pre, _ => by rw [List.nil_append, List.append_nil]
  | y :: xs, pre, h => by
    obtain ⟨x, hx, hc⟩ := h y (by simp)
    rw [List.cons_append, sortScan, hx]
    simp only
    rw [if_neg (by
      rw [List.count_append, List.count_cons_self] at hc
      omega)]
    rw [sortScan_app s ys xs (pre ++ [y]) (fun id hid => by rw [List.append_assoc]; exact h id (List.mem_cons_of_mem _ hid)), List.append_assoc]
    rfl
theorem sumAll_le (s : List S60) (h : ∀ x ∈ s, x.f1 ≤ 9) : sumSel (fun _ => 0) 0 s ≤ 9 * s.length := by
  induction s with
  | nil => simp [sumSel]
  | cons x xs ih =>
    have h1 := ih (fun y hy => h y (List.mem_cons_of_mem _ hy))
    have h2 := h x (by simp)
    simp only [sumSel, if_pos, List.length_cons]
    omega
theorem check_none (c g : List Int) (s : List S60) (hm : sequence_machine.f c = some true) (hs : s.length ≤ 1000) (hw : ∃ t, sequence_wrong.f (stopsOf s) = some t ∧ t < 0) (hok : ∀ x ∈ s, GoodSeat c.length x)
    (hlt : ∀ (i : Nat) (h : i + 1 < s.length), seatLt s[i] s[i + 1]) : sequence_CheckK.f 5000 c s [] g = some (0, 283) := by
  obtain ⟨hn1, hn, _⟩ := machine_true hm
  obtain ⟨t, ht, htn⟩ := hw
  obtain ⟨r, hr⟩ : ∃ r, 5000 = (r + 1 + 1 + 2 * s.length + 1) + s.length := ⟨5000 - (1 + 1 + 2 * s.length + 1 + s.length), by omega⟩
  unfold sequence_CheckK.f
  rw [hm, Option.bind_some, if_pos rfl, if_neg (by omega), hr]
  have h0 := check_l0 c [] g s hs s.length 0 (r + 1 + 1 + 2 * s.length + 1) (by omega)
  have h1 := check_l1 c [] g s hs hn hok hlt s.length 0 (r + 1 + 1) (by omega)
  simp only [List.take_zero] at h0 h1
  rw [show ([] : List S27) = stopsOf [] from rfl]
  refine h0.trans ?_
  rw [sequence_CheckK.l0, if_neg (by omega), ht, Option.bind_some, if_neg (by omega), if_pos (by omega), if_pos (by omega)]
  rw [show ((c.length : Int)).toNat = c.length by omega]
  refine h1.trans ?_
  rw [sequence_CheckK.l1, if_neg (by omega), if_neg (by simp only [List.length_nil]; omega), sequence_CheckK.j3, if_pos rfl]
/-- What the plan of Make knows of the route: its seats in order, and each stop's seat. -/
theorem wrong_sorts (vols caps : List Int) (hv : ∀ i : Nat, 0 ≤ rd vols (i : Int) ∧ rd vols (i : Int) ≤ 255) (hc : ∀ i : Nat, 0 ≤ rd caps (i : Int) ∧ rd caps (i : Int) ≤ 255) (m : Nat) (hm : m ≤ (machL caps).length) (hp : planOk (routeL vols) (machL caps) m = true)
    (seats : List S60) (hse : seats = seatL (machL caps) m 0 0 0 (routeL vols)) (F S : List Int) (hF : F = loadsF (machL caps).length seats) (hS : S = loadsS (machL caps).length seats) (items : List Int)
    (hit : ∀ id ∈ items, ∃ p : Nat, ∃ hp : p < (routeL vols).length, id = (routeL vols)[p].f0) (hcnt : ∀ p : Nat, ∀ hp : p < (routeL vols).length, ((items.count (routeL vols)[p].f0 : Nat) : Int) ≤ (routeL vols)[p].f1) :
    sequence_Sort.f (machL caps) seats F S (items ++ [0]) = some ([], [], [], 6) ∧
    (∀ (h0 : 0 < (routeL vols).length), sequence_Sort.f (machL caps) seats F S (List.replicate 10 (routeL vols)[0].f0 ++ [0]) = some ([], [], [], 4)) ∧
    sequence_Sort.f (machL caps) seats F S (List.replicate 2001 0) = some ([], [], [], 5) ∧
    sequence_Sort.f (machL caps) seats [] S (List.replicate 2001 0) = some ([], [], [], 283) := by
  have hf := law_fit vols caps hv hc
  obtain ⟨e1, e2, e3⟩ := plan_seats (routeL vols) (machL caps) hf m hm hp
  have hck : sequence_Check.f (machL caps) seats F S = some (0, 0) := by rw [hF, hS, hse]; exact check_seats (routeL vols) (machL caps) hf m hm hp
  have hck2 : sequence_Check.f (machL caps) seats [] S = some (0, 283) := by
    obtain ⟨t, ht, htn⟩ := hf.2.2
    have hpl := hp
    simp only [planOk, Bool.and_eq_true, decide_eq_true_eq] at hpl
    have h1 := hf.2.1
    rw [hse]
    refine check_none (machL caps) S _ hf.1 (by omega) ⟨t, by rw [e1]; exact ht, htn⟩ e2 (fun i hi => ?_)
    exact List.pairwise_iff_getElem.1 e3 i (i + 1) (by omega) hi (by omega)
  rw [← hse] at e1 e2 e3
  have hsl : seats.length = (routeL vols).length := by
    have := congrArg List.length e1
    simpa [stopsOf] using this
  have hsf : ∀ p (hp : p < (routeL vols).length), seats[p].f0 = (routeL vols)[p].f0 ∧ seats[p].f1 = (routeL vols)[p].f1 := fun p hp => by
    have h1 : (stopsOf seats)[p]? = (routeL vols)[p]? := by rw [e1]
    simp only [stopsOf, List.getElem?_map, List.getElem?_eq_getElem (show p < seats.length by omega), List.getElem?_eq_getElem hp, Option.map_some, Option.some.injEq] at h1
    rw [← h1]
    exact ⟨rfl, rfl⟩
  have hns : (seats.map (·.f0)).Nodup := by
    have : seats.map (·.f0) = (routeL vols).map (·.f0) := by
      rw [← e1]
      simp [stopsOf]
    rw [this]
    exact routeL_nodup vols
  have hplace : ∀ p (hp : p < (routeL vols).length), placeOf seats (routeL vols)[p].f0 = some seats[p] := fun p hp => by
    rw [← (hsf p hp).1]
    exact place_at seats hns p (by omega)
  have hmem : ∀ x ∈ seats, 400 ≤ x.f0 ∧ x.f0 ≤ 1000 ∧ 1 ≤ x.f1 ∧ x.f1 ≤ 9 := fun x hx => by
    have h1 : (⟨x.f0, x.f1⟩ : S27) ∈ stopsOf seats := List.mem_map.2 ⟨x, hx, rfl⟩
    rw [e1] at h1
    exact routeL_mem vols hv _ h1
  have hp0 : placeOf seats 0 = none := by
    cases h : placeOf seats 0 with
    | none => rfl
    | some x =>
      obtain ⟨h1, h2⟩ := placeOf_mem h
      have := hmem x h1
      omega
  have hwf : seats.all (fun x => wfI x.f0) = true := List.all_eq_true.2 fun x hx => by
    have := hmem x hx
    simp only [wfI, Lit.wf, IntKind.min, IntKind.max, IntKind.signed, IntKind.bits, Bool.and_eq_true, decide_eq_true_eq, if_true]
    omega
  have hwi : ∀ id ∈ items, wfI id = true := fun id hid => by
    obtain ⟨p, hp, rfl⟩ := hit id hid
    have := routeL_mem vols hv _ (List.getElem_mem hp)
    simp only [wfI, Lit.wf, IntKind.min, IntKind.max, IntKind.signed, IntKind.bits, Bool.and_eq_true, decide_eq_true_eq, if_true]
    omega
  have hlen : items.length ≤ 1800 := by
    have h1 := cnt_le (fun _ => 0) 0 items seats (fun x hx => by
      obtain ⟨p, hp, rfl⟩ := List.getElem_of_mem hx
      rw [(hsf p (by omega)).1, (hsf p (by omega)).2]
      exact hcnt p (by omega))
    have h2 : items.countP (fun id => seats.any fun x => x.f0 == id && decide ((0 : Int) = 0)) = items.length := by
      rw [List.countP_eq_length]
      intro id hid
      obtain ⟨p, hp, rfl⟩ := hit id hid
      rw [List.any_eq_true]
      exact ⟨seats[p], List.getElem_mem _, by simp [(hsf p hp).1]⟩
    have h3 := sumAll_le seats (fun x hx => (hmem x hx).2.2.2)
    have h4 := routeL_len vols
    have h1' : ((items.length : Nat) : Int) ≤ sumSel (fun _ => 0) 0 seats := by rw [← h2]; exact h1
    omega
  refine ⟨?_, fun h0 => ?_, ?_, ?_⟩
  · have hsc : sortScan seats [] (items ++ [0]) = 6 := by
      rw [sortScan_app seats [0] items [] (fun id hid => by
        obtain ⟨p, hp, rfl⟩ := hit id hid
        exact ⟨_, hplace p hp, by rw [List.nil_append, (hsf p hp).2]; exact hcnt p hp⟩), sortScan, hp0]
    unfold sequence_Sort.f
    rw [if_pos, hck]
    · simp only
      rw [if_pos trivial, if_neg (by rw [List.length_append, List.length_singleton]; omega), hsc, if_neg (by decide)]
    · rw [hwf, Bool.true_and, List.all_append, List.all_eq_true.2 hwi]
      decide
  · obtain ⟨v, hvv⟩ : ∃ v : Nat, (v : Int) = (routeL vols)[0].f1 := ⟨(routeL vols)[0].f1.toNat, by have := routeL_mem vols hv _ (List.getElem_mem h0); omega⟩
    have hb := routeL_mem vols hv _ (List.getElem_mem h0)
    have hs0 := hsf 0 h0
    have hpl := hplace 0 h0
    generalize (routeL vols)[0].f0 = id at hs0 hpl hb
    have hsp : List.replicate 10 id ++ [0] = List.replicate v id ++ (id :: (List.replicate (9 - v) id ++ [0])) := by
      have h10 : List.replicate 10 id = List.replicate v id ++ (id :: List.replicate (9 - v) id) := by
        rw [← List.replicate_succ, List.replicate_append_replicate]
        congr 1
        omega
      rw [h10, List.append_assoc, List.cons_append]
    have hsc : sortScan seats [] (List.replicate 10 id ++ [0]) = 4 := by
      rw [hsp, sortScan_app seats _ (List.replicate v id) [] (fun j hj => by
        rw [List.eq_of_mem_replicate hj]
        exact ⟨_, hpl, by rw [List.nil_append, List.count_replicate_self]; omega⟩), sortScan, hpl]
      simp only
      rw [if_pos (by rw [List.nil_append, List.count_replicate_self]; omega)]
    unfold sequence_Sort.f
    rw [if_pos, hck]
    · simp only
      rw [if_pos trivial, if_neg (by simp), hsc, if_neg (by decide)]
    · rw [hwf, Bool.true_and, List.all_append, List.all_replicate]
      have : wfI id = true := by
        simp only [wfI, Lit.wf, IntKind.min, IntKind.max, IntKind.signed, IntKind.bits, Bool.and_eq_true, decide_eq_true_eq, if_true]
        omega
      simp [this]
      decide
  · unfold sequence_Sort.f
    rw [if_pos, hck]
    · simp only
      rw [if_pos trivial, if_pos (by rw [List.length_replicate]; decide)]
    · rw [hwf, Bool.true_and, List.all_replicate]
      decide
  · unfold sequence_Sort.f
    rw [if_pos, hck2]
    · simp only
      rw [if_neg (by decide)]
    · rw [hwf, Bool.true_and, List.all_replicate]
      decide
end Go.Proofs.Ytbhcchcjmgfpiaa.Print
