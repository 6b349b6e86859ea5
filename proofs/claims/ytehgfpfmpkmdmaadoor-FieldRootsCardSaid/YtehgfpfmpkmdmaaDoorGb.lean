/- The contract of field.check: the error of lists of bytes (3 for one that is too long, 2 for a number that is no element). By hand, in the printed contracts' form. -/
import Derived.Test.YtehgfpfmpkmdmaaDoorPrint0
namespace Go.Proofs.YtehgfpfmpkmdmaaDoor.Print
open Go.RowKit Go.Proofs.YtehgfpfmpkmdmaaDoorW.PrintWords Go.Proofs.YtehgfpfmpkmdmaaDoorW.PrintLast Go.Proofs.YtehgfpfmpkmdmaaDoorW.PrintMore

/-- Is this no element? -/
def badEl (c : Int) : Bool := decide (c ≥ 64)
def longL (l : List Int) : Bool := decide (128 < l.length)
def field_check.f (l0 : List (List Int)) : Option Int := some (if l0.any longL = true then 3 else if l0.any (fun l => l.any badEl) = true then 2 else 0)
/-- The first place from k on where p holds, or -1. -/
def idxFrom {α : Type} (p : α → Bool) : Nat → List α → Int
  | _, [] => -1
  | k, x :: xs => if p x then (k : Int) else idxFrom p (k + 1) xs
theorem idxFrom_any {α : Type} (p : α → Bool) : ∀ (l : List α) (k : Nat), decide (idxFrom p k l ≥ 0) = l.any p
  | [], k => by simp [idxFrom]
  | x :: xs, k => by
    unfold idxFrom
    cases h : p x
    · simp only [Bool.false_eq_true, if_false, List.any_cons, h, Bool.false_or]; exact idxFrom_any p xs (k + 1)
    · simp [h]
theorem idxFrom_drop {α : Type} (p : α → Bool) (z : α) (l : List α) (k : Nat) (h : k < l.length) : idxFrom p k (l.drop k) = if p (l.getD k z) then (k : Int) else idxFrom p (k + 1) (l.drop (k + 1)) := by
  rw [List.drop_eq_getElem_cons h, idxFrom]
  simp [List.getD_eq_getElem?_getD, List.getElem?_eq_getElem h]
theorem ret_bool {a b : Bool} (h : a = b) : Ending.returned (.bool a) = .returned (.bool b) := by rw [h]
theorem ret_int {k : IntKind} {a b : Int} (h : a = b) : Ending.returned (.int k a) = .returned (.int k b) := by rw [h]

theorem el58 (c : Int) (w : World) : Calls Tryd.prog 58 #[.int .u8 c] w fun e w' => e = .returned (.bool (badEl c)) ∧ w = w' := by
  go_enter Tryd.func58, Tryd.ntmps58
  go_wp2
  go_ret
  exact ⟨ret_bool (by simp [badEl]), rfl⟩

set_option maxHeartbeats 1000000 in
theorem idx63 (A : Option Addr) (c : Nat) (l : List Int) (w : World) (hr : Kd.C (Kd.int .u8) w A l.length l) :
    Calls Tryd.prog 63 #[.slice A l.length c, .func (.func 58) #[] #[]] w fun e w' => e = .returned (.int .i64 (idxFrom badEl 0 l)) ∧ w = w' := by
  have hmax : l.length ≤ 9223372036854775807 := hr.2.1
  have HR := Aside0.mk hr
  clear hr
  go_enter Tryd.func63, Tryd.ntmps63
  go_wp2
  go_loop [8] (fun i => ∃ k : Nat, k ≤ l.length ∧ i = .int .i64 k ∧ idxFrom badEl 0 l = idxFrom badEl k (l.drop k)) (fun i => l.length - (intOf i).toNat)
  case atStart => exact ⟨0, Nat.zero_le _, rfl, rfl⟩
  case round =>
    obtain ⟨k, hk, rfl, hrel⟩ := hrel
    by_cases hlt : k < l.length
    · obtain ⟨ad, rfl, hcell⟩ := Kd.at_int HR.out (k : Int) (by omega) (by omega)
      have hcell' : w.cell? (ad.add k) = some (.int .u8 (rd l k)) := hcell
      have hd := idxFrom_drop badEl 0 l k hlt
      have hrd : rd l k = l.getD k 0 := by simp [rd]
      rw [← hrd] at hd
      have HD := Aside0.mk (hrel.trans hd)
      clear hd hrel hcell hrd
      cases hb : badEl (rd l k)
      · have HB := Aside0.mk hb
        clear hb
        go_wp2_with (go_at_call 58; refine (el58 _ _).mono ?_; rintro e w' ⟨rfl, rfl⟩; rw [HB.out])
        go_round
        case rel => exact ⟨k + 1, by omega, by go_num, by rw [HD.out, HB.out]; rfl⟩
        case measure => simp [intOf]; omega
      · have HB := Aside0.mk hb
        clear hb
        go_wp2_with (go_at_call 58; refine (el58 _ _).mono ?_; rintro e w' ⟨rfl, rfl⟩; rw [HB.out])
        go_ret
        exact ⟨ret_int (by rw [HD.out, HB.out]; rfl), rfl⟩
    · have hkl : k = l.length := by omega
      have HD := Aside0.mk hrel
      have HK := Aside0.mk hkl
      clear hrel hkl
      go_wp2
      go_ret
      exact ⟨ret_int (by rw [HD.out, HK.out, List.drop_length]; rfl), rfl⟩

theorem any57 (A : Option Addr) (c : Nat) (l : List Int) (w : World) (hr : Kd.C (Kd.int .u8) w A l.length l) :
    Calls Tryd.prog 57 #[.slice A l.length c, .func (.func 58) #[] #[]] w fun e w' => e = .returned (.bool (l.any badEl)) ∧ w = w' := by
  have HR := Aside0.mk hr
  clear hr
  have HA := Aside0.mk (idxFrom_any badEl l 0)
  obtain ⟨r, hr⟩ : ∃ r, r = idxFrom badEl 0 l := ⟨_, rfl⟩
  have HE := Aside0.mk hr
  clear hr
  go_enter Tryd.func57, Tryd.ntmps57
  go_wp2_with (go_at_call 63; refine (idx63 _ _ _ _ HR.out).mono ?_; rintro e w' ⟨rfl, rfl⟩; rw [← HE.out])
  go_ret
  exact ⟨ret_bool (by rw [← HA.out, ← HE.out]), rfl⟩

theorem any_drop {α : Type} (p : α → Bool) (z : α) (l : List α) (k : Nat) (h : k < l.length) : (l.drop k).any p = (p (l.getD k z) || (l.drop (k + 1)).any p) := by
  rw [List.drop_eq_getElem_cons h, List.any_cons]
  simp [List.getD_eq_getElem?_getD, List.getElem?_eq_getElem h]

set_option maxHeartbeats 2000000 in
theorem field_check.calls (A0 : Option Addr) (c0 : Nat) (l0 : List (List Int)) (r : Int) (w : World) (hr0 : Kd.C (Kd.slice 5 (Kd.int .u8)) w A0 l0.length l0) (_hc0 : l0.length ≤ c0) (h : field_check.f l0 = some r) :
    Calls Tryd.prog 45 #[.slice A0 l0.length c0] w fun e w' => e = .returned (.int .i64 r) ∧ Drawn0 w w' := by
  have hmax : l0.length ≤ 9223372036854775807 := hr0.2.1
  have HR := Aside0.mk hr0
  clear hr0 _hc0
  unfold field_check.f at h
  injection h with h
  have H := Aside0.mk h
  clear h
  go_enter Tryd.func45, Tryd.ntmps45
  go_wp2
  go_loop [4, 9] (fun _ i => ∃ k : Nat, k ≤ l0.length ∧ i = .int .i64 k ∧ Aside0 (l0.any longL = (l0.drop k).any longL)) (fun _ i => l0.length - (intOf i).toNat)
  case atStart => exact ⟨0, Nat.zero_le _, rfl, ⟨rfl⟩⟩
  case round =>
    obtain ⟨k, hk, rfl, hrel⟩ := hrel
    by_cases hlt : k < l0.length
    · obtain ⟨ad, B, cB, rfl, hcell, hcb, hC⟩ := at_L1 HR.out (k : Int) (by omega) (by omega)
      have hcell' : w.cell? (ad.add k) = some (.slice B (rd_L1 l0 (k : Int)).length cB) := hcell
      have HD := Aside0.mk (hrel.out.trans (any_drop longL [] l0 k hlt))
      have hrd : rd_L1 l0 (k : Int) = l0.getD k [] := by simp [rd_L1]
      rw [← hrd] at HD
      generalize rd_L1 l0 (k : Int) = row at hcell' HD hC hcb
      have hml : row.length ≤ 9223372036854775807 := hC.2.1
      clear hrel hcell hrd hC
      by_cases hlong : 128 < row.length
      · have e1 : (row.length : Int) > 128 := by omega
        have HL := Aside0.mk (show longL row = true by simp [longL, hlong])
        go_wp2
        go_ret
        exact ⟨ret_int (by rw [← H.out, HD.out, HL.out]; rfl), Drawn0.refl _⟩
      · have e1 : ¬ (row.length : Int) > 128 := by omega
        have HL := Aside0.mk (show longL row = false by simp [longL]; omega)
        go_wp2
        go_round
        case rel => exact ⟨k + 1, by omega, by go_num, ⟨by rw [HD.out, HL.out]; rfl⟩⟩
        case measure => simp [intOf]; omega
    · have hkl : k = l0.length := by omega
      have HN := Aside0.mk (show l0.any longL = false by rw [hrel.out, hkl, List.drop_length]; rfl)
      clear hrel hkl
      go_wp2
      go_loop [6, 19] (fun _ i => ∃ k : Nat, k ≤ l0.length ∧ i = .int .i64 k ∧ Aside0 (l0.any (fun l => l.any badEl) = (l0.drop k).any (fun l => l.any badEl))) (fun _ i => l0.length - (intOf i).toNat)
      case atStart => exact ⟨0, Nat.zero_le _, rfl, ⟨rfl⟩⟩
      case round =>
        obtain ⟨q, hq, rfl, hrel⟩ := hrel
        by_cases hlq : q < l0.length
        · obtain ⟨ad, B, cB, rfl, hcell, hcb, hC⟩ := at_L1 HR.out (q : Int) (by omega) (by omega)
          have hcell' : w.cell? (ad.add q) = some (.slice B (rd_L1 l0 (q : Int)).length cB) := hcell
          have HD := Aside0.mk (hrel.out.trans (any_drop (fun l => l.any badEl) [] l0 q hlq))
          have hrd : rd_L1 l0 (q : Int) = l0.getD q [] := by simp [rd_L1]
          rw [← hrd] at HD
          generalize rd_L1 l0 (q : Int) = row at hcell' HD hC hcb
          have HC := Aside0.mk hC
          clear hrel hcell hrd hC
          cases hb : row.any badEl
          · have HB := Aside0.mk hb
            clear hb
            go_wp2_with (go_at_call 57; refine (any57 _ _ _ _ HC.out).mono ?_; rintro e w' ⟨rfl, rfl⟩; rw [HB.out])
            go_round
            case rel => exact ⟨q + 1, by omega, by go_num, ⟨by rw [HD.out, HB.out]; rfl⟩⟩
            case measure => simp [intOf]; omega
          · have HB := Aside0.mk hb
            clear hb
            go_wp2_with (go_at_call 57; refine (any57 _ _ _ _ HC.out).mono ?_; rintro e w' ⟨rfl, rfl⟩; rw [HB.out])
            go_ret
            exact ⟨ret_int (by rw [← H.out, HN.out, HD.out, HB.out]; rfl), Drawn0.refl _⟩
        · have hql : q = l0.length := by omega
          have HN2 := Aside0.mk (show l0.any (fun l => l.any badEl) = false by rw [hrel.out, hql, List.drop_length]; rfl)
          clear hrel hql
          go_wp2
          go_ret
          exact ⟨ret_int (by rw [← H.out, HN.out, HN2.out]; rfl), Drawn0.refl _⟩
end Go.Proofs.YtehgfpfmpkmdmaaDoor.Print
