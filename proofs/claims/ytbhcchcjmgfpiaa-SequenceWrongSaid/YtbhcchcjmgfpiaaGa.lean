/- The contract of sequence.machine: it tells whether capacities are those of a machine (1 to 64 of them, each from 1 to 100000). By hand, in the printed contracts' form. -/
import Derived.Test.YtbhcchcjmgfpiaaPrint0
namespace Go.Proofs.Ytbhcchcjmgfpiaa.Print
open Go.RowKit Go.Proofs.YtbhcchcjmgfpiaaW.PrintWords Go.Proofs.YtbhcchcjmgfpiaaW.PrintLast Go.Proofs.YtbhcchcjmgfpiaaW.PrintMore

/-- Is this no capacity? -/
def badCap (c : Int) : Bool := decide (c < 1) || decide (c > 100000)
def sequence_machine.f (l0 : List Int) : Option Bool := some (decide (0 < l0.length) && decide (l0.length ≤ 64) && !l0.any badCap)
/-- The first place from k on where p holds, or -1. -/
def idxFrom {α : Type} (p : α → Bool) : Nat → List α → Int
  | _, [] => -1
  | k, x :: xs => if p x then (k : Int) else idxFrom p (k + 1) xs
theorem idxFrom_any {α : Type} (p : α → Bool) : ∀ (l : List α) (k : Nat), decide (idxFrom p k l ≥ 0) = l.any p
  | [], k => by simp [idxFrom]
  | x :: xs, k => by
    unfold idxFrom
    cases h : p x
    · simp only [Bool.false_eq_true, if_false, List.any_cons, h, Bool.false_or]; exact idxFrom_any p xs (k + 1)
    · simp [h]
theorem idxFrom_drop {α : Type} (p : α → Bool) (z : α) (l : List α) (k : Nat) (h : k < l.length) : idxFrom p k (l.drop k) = if p (l.getD k z) then (k : Int) else idxFrom p (k + 1) (l.drop (k + 1)) := by
  rw [List.drop_eq_getElem_cons h, idxFrom]
  simp [List.getD_eq_getElem?_getD, List.getElem?_eq_getElem h]
theorem ret_bool {a b : Bool} (h : a = b) : Ending.returned (.bool a) = .returned (.bool b) := by rw [h]
theorem ret_int {k : IntKind} {a b : Int} (h : a = b) : Ending.returned (.int k a) = .returned (.int k b) := by rw [h]

theorem cap50 (c : Int) (w : World) : Calls Try.prog 50 #[.int .i64 c] w fun e w' => e = .returned (.bool (badCap c)) ∧ w = w' := by
  by_cases h1 : c < 1
  · go_enter Try.func50, Try.ntmps50
    go_wp2
    go_ret
    exact ⟨ret_bool (by simp [badCap, h1]), rfl⟩
  · by_cases h2 : 100000 < c
    · go_enter Try.func50, Try.ntmps50
      go_wp2
      go_ret
      exact ⟨ret_bool (by simp [badCap]; omega), rfl⟩
    · go_enter Try.func50, Try.ntmps50
      go_wp2
      go_ret
      exact ⟨ret_bool (by simp [badCap]; omega), rfl⟩

set_option maxHeartbeats 1000000 in
theorem idx53 (A : Option Addr) (c : Nat) (l : List Int) (w : World) (hr : Kd.C (Kd.int .i64) w A l.length l) :
    Calls Try.prog 53 #[.slice A l.length c, .func (.func 50) #[] #[]] w fun e w' => e = .returned (.int .i64 (idxFrom badCap 0 l)) ∧ w = w' := by
  have hmax : l.length ≤ 9223372036854775807 := hr.2.1
  have HR := Aside0.mk hr
  clear hr
  go_enter Try.func53, Try.ntmps53
  go_wp2
  go_loop [8] (fun i => ∃ k : Nat, k ≤ l.length ∧ i = .int .i64 k ∧ idxFrom badCap 0 l = idxFrom badCap k (l.drop k)) (fun i => l.length - (intOf i).toNat)
  case atStart => exact ⟨0, Nat.zero_le _, rfl, rfl⟩
  case round =>
    obtain ⟨k, hk, rfl, hrel⟩ := hrel
    by_cases hlt : k < l.length
    · obtain ⟨ad, rfl, hcell⟩ := Kd.at_int HR.out (k : Int) (by omega) (by omega)
      have hcell' : w.cell? (ad.add k) = some (.int .i64 (rd l k)) := hcell
      have hd := idxFrom_drop badCap 0 l k hlt
      have hrd : rd l k = l.getD k 0 := by simp [rd]
      rw [← hrd] at hd
      have HD := Aside0.mk (hrel.trans hd)
      clear hd hrel hcell hrd
      cases hb : badCap (rd l k)
      · have HB := Aside0.mk hb
        clear hb
        go_wp2_with (go_at_call 50; refine (cap50 _ _).mono ?_; rintro e w' ⟨rfl, rfl⟩; rw [HB.out])
        go_round
        case rel => exact ⟨k + 1, by omega, by go_num, by rw [HD.out, HB.out]; rfl⟩
        case measure => simp [intOf]; omega
      · have HB := Aside0.mk hb
        clear hb
        go_wp2_with (go_at_call 50; refine (cap50 _ _).mono ?_; rintro e w' ⟨rfl, rfl⟩; rw [HB.out])
        go_ret
        exact ⟨ret_int (by rw [HD.out, HB.out]; rfl), rfl⟩
    · have hkl : k = l.length := by omega
      have HD := Aside0.mk hrel
      have HK := Aside0.mk hkl
      clear hrel hkl
      go_wp2
      go_ret
      exact ⟨ret_int (by rw [HD.out, HK.out, List.drop_length]; rfl), rfl⟩

theorem any49 (A : Option Addr) (c : Nat) (l : List Int) (w : World) (hr : Kd.C (Kd.int .i64) w A l.length l) :
    Calls Try.prog 49 #[.slice A l.length c, .func (.func 50) #[] #[]] w fun e w' => e = .returned (.bool (l.any badCap)) ∧ w = w' := by
  have HR := Aside0.mk hr
  clear hr
  have HA := Aside0.mk (idxFrom_any badCap l 0)
  obtain ⟨r, hr⟩ : ∃ r, r = idxFrom badCap 0 l := ⟨_, rfl⟩
  have HE := Aside0.mk hr
  clear hr
  go_enter Try.func49, Try.ntmps49
  go_wp2_with (go_at_call 53; refine (idx53 _ _ _ _ HR.out).mono ?_; rintro e w' ⟨rfl, rfl⟩; rw [← HE.out])
  go_ret
  exact ⟨ret_bool (by rw [← HA.out, ← HE.out]), rfl⟩

set_option maxHeartbeats 1000000 in
theorem sequence_machine.calls (A0 : Option Addr) (c0 : Nat) (l0 : List Int) (r : Bool) (w : World) (hr0 : Kd.C (Kd.int .i64) w A0 l0.length l0) (_hc0 : l0.length ≤ c0) (h : sequence_machine.f l0 = some r) :
    Calls Try.prog 36 #[.slice A0 l0.length c0] w fun e w' => e = .returned (.bool r) ∧ Drawn0 w w' := by
  have hmax : l0.length ≤ 9223372036854775807 := hr0.2.1
  have HR := Aside0.mk hr0
  clear hr0 _hc0
  unfold sequence_machine.f at h
  injection h with h
  have H := Aside0.mk h
  clear h
  by_cases h1 : 0 < l0.length
  · by_cases h2 : l0.length ≤ 64
    · have e1 : ((l0.length : Int) > 0) := by omega
      have e2 : ((l0.length : Int) ≤ 64) := by omega
      obtain ⟨q, hq⟩ : ∃ q, q = l0.any badCap := ⟨_, rfl⟩
      have HQ := Aside0.mk hq
      clear hq
      go_enter Try.func36, Try.ntmps36
      go_wp2_with (go_at_call 49; refine (any49 _ _ _ _ HR.out).mono ?_; rintro e w' ⟨rfl, rfl⟩; rw [← HQ.out])
      go_ret
      exact ⟨ret_bool (by rw [← H.out, ← HQ.out]; simp [h1, h2]), Drawn0.refl _⟩
    · have e1 : ((l0.length : Int) > 0) := by omega
      have e2 : ¬ ((l0.length : Int) ≤ 64) := by omega
      go_enter Try.func36, Try.ntmps36
      go_wp2
      go_ret
      exact ⟨ret_bool (by rw [← H.out]; simp [h2]), Drawn0.refl _⟩
  · have e1 : ¬ ((l0.length : Int) > 0) := by omega
    go_enter Try.func36, Try.ntmps36
    go_wp2
    go_ret
    exact ⟨ret_bool (by rw [← H.out]; simp [h1]), Drawn0.refl _⟩
end Go.Proofs.Ytbhcchcjmgfpiaa.Print
