/- What the laws of ch. 28 know of a run by a plan of Make. -/
import Derived.Test.YtbhcchcjmgfpiaaGy
namespace Go.Proofs.Ytbhcchcjmgfpiaa.Print
open Go.RowKit Go.Proofs.YtbhcchcjmgfpiaaW.PrintWords Go.Proofs.YtbhcchcjmgfpiaaW.PrintLast Go.Proofs.YtbhcchcjmgfpiaaW.PrintMore
set_option linter.unusedVariables false
set_option linter.unusedSimpArgs false

theorem rd_u8 (l : List Int) (h : ∀ x ∈ l, (Lit.int .u8 x).wf = true) (i : Nat) : 0 ≤ rd l (i : Int) ∧ rd l (i : Int) ≤ 255 := by
  rw [rd, Int.toNat_natCast, List.getD_eq_getElem?_getD]
  rcases Nat.lt_or_ge i l.length with hi | hi
  · rw [List.getElem?_eq_getElem hi]
    have := h _ (List.getElem_mem hi)
    simp only [Lit.wf, IntKind.min, IntKind.max, IntKind.signed, IntKind.bits, Bool.and_eq_true, decide_eq_true_eq] at this
    simp at this
    simp only [Option.getD_some]
    omega
  · rw [List.getElem?_eq_none hi]
    simp
theorem all_u8 (l : List Int) (h : ∀ x ∈ l, (Lit.int .u8 x).wf = true) : l.all isU8 = true := by
  rw [List.all_eq_true]
  intro x hx
  have := h x hx
  simp only [Lit.wf, IntKind.min, IntKind.max, IntKind.signed, IntKind.bits, Bool.and_eq_true, decide_eq_true_eq] at this
  simp at this
  simp only [isU8, Bool.and_eq_true, decide_eq_true_eq]
  omega
theorem loadsF_len (n : Nat) (l : List S60) : (loadsF n l).length = n := by
  have h : ∀ (l : List S60) (acc : List Int), (l.foldl (fun acc x => putI acc x.f2 x.f1) acc).length = acc.length := by
    intro l
    induction l with
    | nil => intro acc; rfl
    | cons x xs ih => intro acc; rw [List.foldl_cons, ih, putI_len]
  unfold loadsF
  rw [h, List.length_replicate]
theorem loadsS_len (n : Nat) (l : List S60) : (loadsS n l).length = n := by
  have h : ∀ (l : List S60) (acc : List Int), (l.foldl (fun acc x => putI acc x.f3 x.f1) acc).length = acc.length := by
    intro l
    induction l with
    | nil => intro acc; rfl
    | cons x xs ih => intro acc; rw [List.foldl_cons, ih, putI_len]
  unfold loadsS
  rw [h, List.length_replicate]
/-- What the laws know of a run by a plan of Make. -/
theorem law_run (vols caps picks : List Int) (hv : ∀ x ∈ vols, (Lit.int .u8 x).wf = true) (hc : ∀ x ∈ caps, (Lit.int .u8 x).wf = true) (hp : ∀ x ∈ picks, (Lit.int .u8 x).wf = true) (m : Nat) (hm : m ≤ (machL caps).length) (hpl : planOk (routeL vols) (machL caps) m = true) :
    letterbaglaw28_feed.f (routeL vols) picks = some (feedL (routeL vols) picks) ∧ (∀ id ∈ feedL (routeL vols) picks, ∃ p : Nat, ∃ hp : p < (routeL vols).length, id = (routeL vols)[p].f0) ∧ (feedL (routeL vols) picks).length ≤ 2000 ∧
    ∃ r1 r2 ord, sequence_Sort.f (machL caps) (seatL (machL caps) m 0 0 0 (routeL vols)) (loadsF (machL caps).length (seatL (machL caps) m 0 0 0 (routeL vols))) (loadsS (machL caps).length (seatL (machL caps) m 0 0 0 (routeL vols))) (feedL (routeL vols) picks) = some (r1, r2, ord, 0) ∧ RunOk (routeL vols) (machL caps) m (feedL (routeL vols) picks) r1 r2 ord := by
  have hv' := rd_u8 vols hv
  have hc' := rd_u8 caps hc
  have hl := routeL_len vols
  have hu := all_u8 picks hp
  obtain ⟨h1, h2, h3⟩ := feedL_ok (routeL vols) (routeL_nodup vols) (fun x hx => (routeL_mem vols hv' x hx).2.2.1) picks (fun q hq => by
    have := List.all_eq_true.1 hu q hq
    simp only [isU8, Bool.and_eq_true, decide_eq_true_eq] at this
    exact this.1)
  refine ⟨by unfold letterbaglaw28_feed.f; rw [if_pos ⟨by omega, hu⟩], h2, h3, ?_⟩
  exact run_good (routeL vols) (machL caps) (law_fit vols caps hv' hc') m hm hpl (routeL_nodup vols) (law_wf vols hv') _ h2 h1 h3
theorem loads_caps (stops : List S27) (caps : List Int) (hf : Fit stops caps) (m : Nat) (hm : m ≤ caps.length) (hp : planOk stops caps m = true) : (seatL caps m 0 0 0 stops).length = stops.length ∧ ∀ k : Nat, k < caps.length → rd (loadsF caps.length (seatL caps m 0 0 0 stops)) k ≤ rd caps k ∧ rd (loadsS caps.length (seatL caps m 0 0 0 stops)) k ≤ rd caps k := by
  have hv := hf.vol
  obtain ⟨e1, e2, e3⟩ := plan_seats stops caps hf m hm hp
  obtain ⟨hmc, hl, t, ht, htn⟩ := hf
  obtain ⟨hn1, hn, hcap⟩ := machine_true hmc
  simp only [planOk, Bool.and_eq_true, decide_eq_true_eq] at hp
  obtain ⟨hlen, hw⟩ := hp
  obtain ⟨f1, f2, f3, f4⟩ := seatL_facts caps m (by omega) stops 0 0 0 hv (by omega) (by omega) (by omega)
  rw [show ((0 : Nat) : Int) = 0 from rfl] at f1 f2 f3 f4
  have hcaps : ∀ i : Nat, i < caps.length → 1 ≤ rd caps i := fun i hi => by
    refine (hcap _ ?_).1
    rw [rd, Int.toNat_natCast, List.getD_eq_getElem?_getD, List.getElem?_eq_getElem hi]
    exact List.getElem_mem _
  refine ⟨hlen, fun k hk => ⟨withinL_rd _ _ (loadsF_len _ _) hw k hk, ?_⟩⟩
  rw [loadsS_sum caps.length _ (fun x hx => by have := e2 x hx; unfold GoodSeat at this; omega) k (by omega)]
  have := f4 k hk (fun h => by have := hcaps k hk; subst h; exact Int.le_trans (by decide) this) (by have := hcaps k hk; omega)
  split at this <;> omega
end Go.Proofs.Ytbhcchcjmgfpiaa.Print
