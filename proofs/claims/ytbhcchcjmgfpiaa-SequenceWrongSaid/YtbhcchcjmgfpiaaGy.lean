/- Plain laws of the law's own small functions: its route, its machine, the place of a stop; what Make answers for them. -/
import Derived.Test.YtbhcchcjmgfpiaaGx
import Derived.Test.YtbhcchcjmgfpiaaPrint22
import Derived.Test.YtbhcchcjmgfpiaaPrint23
import Derived.Test.YtbhcchcjmgfpiaaPrint25
import Derived.Test.YtbhcchcjmgfpiaaPrint13
namespace Go.Proofs.Ytbhcchcjmgfpiaa.Print
open Go.RowKit Go.Proofs.YtbhcchcjmgfpiaaW.PrintWords Go.Proofs.YtbhcchcjmgfpiaaW.PrintLast Go.Proofs.YtbhcchcjmgfpiaaW.PrintMore
set_option linter.unusedVariables false
set_option linter.unusedSimpArgs false

/-! ### the route -/
def routeStop (vols : List Int) (i : Nat) : S27 := ⟨1000 - 3 * (i : Int), 1 + (rd vols (i : Int)) % 9⟩
def routeN (vols : List Int) (n : Nat) : List S27 := (List.range n).map (routeStop vols)
def routeL (vols : List Int) : List S27 := routeN vols (min vols.length 200)
theorem routeN_succ (vols : List Int) (n : Nat) : routeN vols (n + 1) = routeN vols n ++ [routeStop vols n] := by simp [routeN, List.range_succ]
theorem routeN_len (vols : List Int) (n : Nat) : (routeN vols n).length = n := by simp [routeN]
theorem route_l0 (vols : List Int) (hv : ∀ i : Nat, 0 ≤ rd vols (i : Int) ∧ rd vols (i : Int) ≤ 255) (hl : vols.length ≤ 9223372036854775807) : ∀ (d i k : Nat), i + d = min vols.length 200 → d < k →
    letterbaglaw28_route.l0 k vols 9 (routeN vols i) (i : Int) = some (routeL vols)
  | 0, i, k, h, hk => by
    obtain ⟨k, rfl⟩ : ∃ j, k = j + 1 := ⟨k - 1, by omega⟩
    rw [letterbaglaw28_route.l0]
    by_cases h1 : (i : Int) < (vols.length : Int)
    · rw [if_pos h1, if_neg (by omega)]
      unfold routeL
      rw [← h, Nat.add_zero]
    · rw [if_neg h1]
      unfold routeL
      rw [← h, Nat.add_zero]
  | d + 1, i, k, h, hk => by
    obtain ⟨k, rfl⟩ : ∃ j, k = j + 1 := ⟨k - 1, by omega⟩
    have hr := hv i
    have ih := route_l0 vols hv hl d (i + 1) k (by omega) (by omega)
    rw [letterbaglaw28_route.l0, if_pos (by omega), if_pos (by omega), if_pos (by omega), if_neg (by decide), if_pos (by rw [routeN_len]; omega)]
    rw [wsm (3 * (i : Int)) (by omega) (by omega), wsm (1000 - 3 * (i : Int)) (by omega) (by omega), wsm (rd vols (i : Int)) (by omega) (by omega), Int.tmod_eq_emod_of_nonneg hr.1, wsm (1 + rd vols (i : Int) % 9) (by omega) (by omega), wsm ((i : Int) + 1) (by omega) (by omega)]
    rw [routeN_succ] at ih
    exact ih
theorem route_f (vols : List Int) (hv : ∀ i : Nat, 0 ≤ rd vols (i : Int) ∧ rd vols (i : Int) ≤ 255) (hl : vols.length ≤ 9223372036854775807) (k : Nat) (hk : 200 < k) : letterbaglaw28_route.f k vols 9 = some (routeL vols) := by
  have := route_l0 vols hv hl (min vols.length 200) 0 k (by omega) (by omega)
  exact this
theorem routeL_len (vols : List Int) : (routeL vols).length = min vols.length 200 := routeN_len _ _
theorem routeL_mem (vols : List Int) (hv : ∀ i : Nat, 0 ≤ rd vols (i : Int) ∧ rd vols (i : Int) ≤ 255) : ∀ x ∈ routeL vols, 400 ≤ x.f0 ∧ x.f0 ≤ 1000 ∧ 1 ≤ x.f1 ∧ x.f1 ≤ 9 := by
  intro x hx
  obtain ⟨i, hi, rfl⟩ := List.mem_map.1 hx
  have := List.mem_range.1 hi
  have := hv i
  simp only [routeStop]
  omega
theorem routeL_nodup (vols : List Int) : ((routeL vols).map (·.f0)).Nodup := by
  unfold routeL routeN
  rw [List.map_map]
  refine List.Pairwise.map _ (fun (a b : Nat) (h : a ≠ b) => ?_) List.nodup_range
  simp only [Function.comp, routeStop]
  omega

/-! ### the machine -/
def machN (caps : List Int) (n : Nat) : List Int := (List.range n).map fun (i : Nat) => 1 + rd caps (i : Int)
def machL (caps : List Int) : List Int := if caps.length = 0 then [1] else machN caps (min caps.length 64)
theorem machN_succ (caps : List Int) (n : Nat) : machN caps (n + 1) = machN caps n ++ [1 + rd caps (n : Int)] := by simp [machN, List.range_succ]
theorem machN_len (caps : List Int) (n : Nat) : (machN caps n).length = n := by simp [machN]
theorem mach_l0 (caps : List Int) (hv : ∀ i : Nat, 0 ≤ rd caps (i : Int) ∧ rd caps (i : Int) ≤ 255) (hl : caps.length ≤ 9223372036854775807) : ∀ (d i k : Nat), i + d = min caps.length 64 → d < k →
    letterbaglaw28_machine.l0 k caps (machN caps i) (i : Int) = some (machL caps)
  | 0, i, k, h, hk => by
    obtain ⟨k, rfl⟩ : ∃ j, k = j + 1 := ⟨k - 1, by omega⟩
    have hm : ∀ (e : i = min caps.length 64), (if ((machN caps i).length : Int) = 0 then some [1] else some (machN caps i)) = some (machL caps) := by
      intro e
      unfold machL
      rw [machN_len]
      by_cases h0 : caps.length = 0
      · rw [if_pos (by omega), if_pos h0]
      · rw [if_neg (by omega), if_neg h0, e]
    rw [letterbaglaw28_machine.l0]
    by_cases h1 : (i : Int) < (caps.length : Int)
    · rw [if_pos h1, if_neg (by omega)]
      exact hm (by omega)
    · rw [if_neg h1]
      exact hm (by omega)
  | d + 1, i, k, h, hk => by
    obtain ⟨k, rfl⟩ : ∃ j, k = j + 1 := ⟨k - 1, by omega⟩
    have hr := hv i
    have ih := mach_l0 caps hv hl d (i + 1) k (by omega) (by omega)
    rw [letterbaglaw28_machine.l0, if_pos (by omega), if_pos (by omega), if_pos (by omega), if_pos (by rw [machN_len]; omega)]
    rw [wsm (rd caps (i : Int)) (by omega) (by omega), wsm (1 + rd caps (i : Int)) (by omega) (by omega), wsm ((i : Int) + 1) (by omega) (by omega)]
    rw [machN_succ] at ih
    exact ih
theorem machine_f' (caps : List Int) (hv : ∀ i : Nat, 0 ≤ rd caps (i : Int) ∧ rd caps (i : Int) ≤ 255) (hl : caps.length ≤ 9223372036854775807) (k : Nat) (hk : 64 < k) : letterbaglaw28_machine.f k caps = some (machL caps) :=
  mach_l0 caps hv hl (min caps.length 64) 0 k (by omega) (by omega)
theorem machL_ok (caps : List Int) (hv : ∀ i : Nat, 0 ≤ rd caps (i : Int) ∧ rd caps (i : Int) ≤ 255) : 0 < (machL caps).length ∧ (machL caps).length ≤ 64 ∧ ∀ c ∈ machL caps, 1 ≤ c ∧ c ≤ 256 := by
  unfold machL
  split
  · simp
  · rename_i h0
    refine ⟨by rw [machN_len]; omega, by rw [machN_len]; omega, fun c hc => ?_⟩
    obtain ⟨i, hi, rfl⟩ := List.mem_map.1 hc
    have := hv i
    omega

/-! ### Make for them -/
theorem law_fit (vols caps : List Int) (hv : ∀ i : Nat, 0 ≤ rd vols (i : Int) ∧ rd vols (i : Int) ≤ 255) (hc : ∀ i : Nat, 0 ≤ rd caps (i : Int) ∧ rd caps (i : Int) ≤ 255) : Fit (routeL vols) (machL caps) := by
  obtain ⟨h1, h2, h3⟩ := machL_ok caps hc
  refine ⟨?_, by rw [routeL_len]; omega, -1, ?_, by decide⟩
  · have : (machL caps).any badCap = false := by
      rw [List.any_eq_false]
      intro x hx
      have := h3 x hx
      simp [badCap]
      omega
    simp only [sequence_machine.f, this]
    simp
    omega
  · unfold sequence_wrong.f
    rw [if_pos, wrongFrom_fine]
    · intro x hx
      have := routeL_mem vols hv x hx
      simp [badStop]
      omega
    · rw [List.nil_append]
      exact routeL_nodup vols
    · rw [List.all_eq_true]
      intro x hx
      have := routeL_mem vols hv x hx
      simp only [wfI, Lit.wf, IntKind.min, IntKind.max, IntKind.signed, IntKind.bits, Bool.and_eq_true, decide_eq_true_eq, if_true]
      omega
theorem law_make (stops : List S27) (caps : List Int) (hf : Fit stops caps) : sequence_Make.f stops caps = some ([], [], [], [], 4) ∨
    ∃ m : Nat, m ≤ caps.length ∧ planOk stops caps m = true ∧ sequence_Make.f stops caps = some (caps, seatL caps m 0 0 0 stops, loadsF caps.length (seatL caps m 0 0 0 stops), loadsS caps.length (seatL caps m 0 0 0 stops), 0) := by
  have hmk : sequence_Make.f stops caps = some (makeG stops caps (min stops.length caps.length)) := by
    obtain ⟨h1, h2, t, h3, h4⟩ := hf
    unfold sequence_Make.f
    rw [h1, Option.bind_some, if_pos rfl, if_neg (by omega), h3, Option.bind_some, if_neg (by omega)]
  rcases make_cases stops caps _ hmk with ⟨e, he, hr⟩ | ⟨_, m, hm, hp, hr⟩
  · left
    rw [hmk]
    unfold makeG at hr ⊢
    cases hs : makeFrom stops caps (min stops.length caps.length) with
    | none => rfl
    | some s =>
      rw [hs] at hr
      simp only [Prod.mk.injEq] at hr
      exact absurd hr.2.2.2.2.symm he
  · right
    exact ⟨m, by omega, hp, by rw [hmk, hr]⟩
theorem law_wf (vols : List Int) (hv : ∀ i : Nat, 0 ≤ rd vols (i : Int) ∧ rd vols (i : Int) ≤ 255) : ∀ x ∈ routeL vols, (Lit.int .i64 x.f0).wf = true := by
  intro x hx
  have := routeL_mem vols hv x hx
  simp only [Lit.wf, IntKind.min, IntKind.max, IntKind.signed, IntKind.bits, Bool.and_eq_true, decide_eq_true_eq, if_true]
  omega

/-! ### the place of a stop -/
theorem at_l0 (stops : List S27) (id : Int) (p : Nat) (hp : p < stops.length) (hl : stops.length ≤ 1000000) (he : stops[p].f0 = id) (hn : ∀ j (hj : j < stops.length), j < p → stops[j].f0 ≠ id) : ∀ (d i k : Nat), i + d = p → d < k →
    letterbaglaw28_at.l0 k stops id (stops.length : Int) (i : Int) = some (p : Int)
  | 0, i, k, h, hk => by
    obtain ⟨k, rfl⟩ : ∃ j, k = j + 1 := ⟨k - 1, by omega⟩
    have hs : (rd_T27 stops (i : Int)).f0 = id := by
      obtain rfl : i = p := by omega
      simp [rd_T27, List.getD_eq_getElem?_getD, List.getElem?_eq_getElem hp, he]
    rw [letterbaglaw28_at.l0, if_pos (by omega), if_pos (by omega), if_pos (by omega), if_pos hs]
    congr 1
    omega
  | d + 1, i, k, h, hk => by
    obtain ⟨k, rfl⟩ : ∃ j, k = j + 1 := ⟨k - 1, by omega⟩
    have hs : ¬ (rd_T27 stops (i : Int)).f0 = id := by
      have := hn i (by omega) (by omega)
      simpa [rd_T27, List.getD_eq_getElem?_getD, List.getElem?_eq_getElem (show i < stops.length by omega)] using this
    rw [letterbaglaw28_at.l0, if_pos (by omega), if_pos (by omega), if_pos (by omega), if_neg hs, wsm _ (by omega) (by omega)]
    exact at_l0 stops id p hp hl he hn d (i + 1) k (by omega) (by omega)
theorem at_f (stops : List S27) (hn : (stops.map (·.f0)).Nodup) (hl : stops.length ≤ 1000000) (id : Int) (hm : ∃ p : Nat, ∃ hp : p < stops.length, id = stops[p].f0) (k : Nat) (hk : stops.length < k) : letterbaglaw28_at.f k stops id = some ((posOf stops id : Nat) : Int) := by
  obtain ⟨p, hp, rfl⟩ := hm
  rw [pos_at stops hn p hp]
  exact at_l0 stops _ p hp hl rfl (fun j hj h e => by
    have := nodup_get hn (i := j) (j := p) (by simpa using hj) (by simpa using hp) (by simpa using e)
    omega) p 0 k (by omega) (by omega)
theorem same_l0 (l : List Int) (hl : l.length ≤ 100000) : ∀ (d i k : Nat), i + d = l.length → d < k → letterbagkit_SameInts.l0 k l l (i : Int) = some true
  | 0, i, k, h, hk => by
    obtain ⟨k, rfl⟩ : ∃ j, k = j + 1 := ⟨k - 1, by omega⟩
    rw [letterbagkit_SameInts.l0, if_neg (by omega)]
  | d + 1, i, k, h, hk => by
    obtain ⟨k, rfl⟩ : ∃ j, k = j + 1 := ⟨k - 1, by omega⟩
    rw [letterbagkit_SameInts.l0, if_pos (by omega), if_pos (by omega), if_pos (by omega), if_pos rfl, wsm _ (by omega) (by omega)]
    exact same_l0 l hl d (i + 1) k (by omega) (by omega)
theorem same_f (l : List Int) (hl : l.length ≤ 100000) (k : Nat) (hk : l.length < k) : letterbagkit_SameInts.f k l l = some true := by
  unfold letterbagkit_SameInts.f
  rw [if_pos rfl]
  exact same_l0 l hl l.length 0 k (by omega) (by omega)
end Go.Proofs.Ytbhcchcjmgfpiaa.Print
