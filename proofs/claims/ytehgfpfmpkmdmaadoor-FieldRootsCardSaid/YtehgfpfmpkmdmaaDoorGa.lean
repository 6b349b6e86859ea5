/- The contracts of field.log, mul, inv and Pow, where the table of powers reads as its text lays it. By hand, in the printed contracts' form. -/
import Derived.Test.YtehgfpfmpkmdmaaDoorPrint3
import Derived.Test.YtehgfpfmpkmdmaaDoorGf
namespace Go.Proofs.YtehgfpfmpkmdmaaDoor.Print
open Go.RowKit Go.Proofs.YtehgfpfmpkmdmaaDoorW.PrintWords Go.Proofs.YtehgfpfmpkmdmaaDoorW.PrintLast Go.Proofs.YtehgfpfmpkmdmaaDoorW.PrintMore
open Go.Proofs.YtehgfpfmpkmdmaaDoor.Gf

def pwI : List Int := [1, 2, 4, 8, 16, 32, 3, 6, 12, 24, 48, 35, 5, 10, 20, 40, 19, 38, 15, 30, 60, 59, 53, 41, 17, 34, 7, 14, 28, 56, 51, 37, 9, 18, 36, 11, 22, 44, 27, 54, 47, 29, 58, 55, 45, 25, 50, 39, 13, 26, 52, 43, 21, 42, 23, 46, 31, 62, 63, 61, 57, 49, 33]
/-- Is this an element other than 0? -/
def unitB (a : Int) : Bool := decide (0 < a) && decide (a < 64)
theorem unitB_iff {a : Int} : unitB a = true ↔ 0 < a ∧ a < 64 := by simp [unitB]
def field_log.f (a0 : Int) : Option Int := if unitB a0 = true then some (lg a0.toNat : Int) else none
def field_mul.f (a0 a1 : Int) : Option Int := if a0 = 0 then some 0 else if a1 = 0 then some 0 else if (unitB a0 && unitB a1) = true then some (ml a0.toNat a1.toNat : Int) else none
def field_inv.f (a0 : Int) : Option Int := if unitB a0 = true then some (iv a0.toNat : Int) else none
/-- The exponent, brought into 0 to 62. -/
def expo (n : Int) : Int := ((n % 63) + 63) % 63
def field_Pow.f (a0 a1 : Int) : Option (Int × Int) :=
  if a0 ≥ 64 then some (0, 2) else if a1 = 0 then some (1, 0) else if a0 = 0 then (if a1 < 0 then some (0, 6) else some (0, 0)) else
  if unitB a0 = true ∧ -9223372036854775808 ≤ a1 ∧ a1 ≤ 9223372036854775807 then some (ex (lg a0.toNat * (a1 % 63).toNat) , 0) else none

theorem index_all : (List.range 63).all (fun i => slices_Index_uint8_uint8.f 64 pwI ((ex i : Nat) : Int) == some (i : Int)) = true := by decide +kernel
theorem index_unit {a : Int} (h : unitB a = true) : slices_Index_uint8_uint8.f 64 pwI a = some (lg a.toNat : Int) := by
  obtain ⟨h0, h1⟩ := unitB_iff.1 h
  have h2 : a.toNat ≠ 0 := by omega
  have h3 := lg_lt (a := a.toNat) (by omega) h2
  have h4 := List.all_eq_true.1 index_all (lg a.toNat) (by simpa using h3)
  rw [ex_lg (by omega) h2] at h4
  rw [show ((a.toNat : Nat) : Int) = a by omega] at h4
  simpa using h4
theorem pw_rd (n : Nat) : rd pwI ((n % 63 : Nat) : Int) = (ex n : Int) := by
  have h : ∀ i : Nat, i < 63 → rd pwI (i : Int) = ((pw.getD i 0 : Nat) : Int) := by decide +kernel
  have := h (n % 63) (Nat.mod_lt _ (by decide))
  rw [this]
  rfl
theorem tmod_nat (n : Nat) : Int.tmod (n : Int) 63 = ((n % 63 : Nat) : Int) := by rw [Int.tmod_eq_emod_of_nonneg (by omega)]; omega

set_option maxHeartbeats 1000000 in
theorem field_log.calls (a0 : Int) (r : Int) (w : World) (hT : Kd.C (Kd.int .u8) w (some ⟨0, 0, none⟩) 63 pwI) (h : field_log.f a0 = some r) :
    Calls Tryd.prog 52 #[.int .u8 a0] w fun e w' => e = .returned (.int .i64 r) ∧ Drawn0 w w' := by
  have HT := Aside0.mk hT
  clear hT
  unfold field_log.f at h
  split at h
  · rename_i hu
    injection h with h
    have HI := Aside0.mk (h ▸ index_unit hu)
    clear h hu
    go_enter Tryd.func52, Tryd.ntmps52
    go_wp2_with (go_at_call 61; refine (slices_Index_uint8_uint8.calls 64 (some ⟨0, 0, none⟩) 63 pwI a0 r w HT.out (by decide) HI.out).mono ?_; rintro e w' ⟨rfl, hd⟩; obtain ⟨nd, rfl⟩ := hd)
    go_ret
    exact ⟨rfl, ⟨⟨_, rfl⟩⟩⟩
  · cases h
theorem tab_cell {w : World} (hT : Kd.C (Kd.int .u8) w (some ⟨0, 0, none⟩) 63 pwI) (n : Nat) : w.cell? ⟨0, n % 63, none⟩ = some (.int .u8 (ex n : Int)) := by
  obtain ⟨ad, e, hc⟩ := Kd.at_int hT ((n % 63 : Nat) : Int) (by omega) (by omega)
  injection e with e
  subst e
  rw [add_plain, pw_rd, Int.toNat_natCast] at hc
  exact hc

set_option maxHeartbeats 1000000 in
theorem field_mul.calls (a0 : Int) (a1 : Int) (r : Int) (w : World) (hT : Kd.C (Kd.int .u8) w (some ⟨0, 0, none⟩) 63 pwI) (h : field_mul.f a0 a1 = some r) :
    Calls Tryd.prog 53 #[.int .u8 a0, .int .u8 a1] w fun e w' => e = .returned (.int .u8 r) ∧ Drawn0 w w' := by
  have HT := Aside0.mk hT
  clear hT
  unfold field_mul.f at h
  by_cases h0 : a0 = 0
  · subst h0
    rw [if_pos rfl] at h
    injection h with h
    subst h
    go_enter Tryd.func53, Tryd.ntmps53
    go_wp2
    go_ret
    exact ⟨rfl, Drawn0.refl _⟩
  · by_cases h1 : a1 = 0
    · subst h1
      rw [if_neg h0, if_pos rfl] at h
      injection h with h
      subst h
      go_enter Tryd.func53, Tryd.ntmps53
      go_wp2
      go_ret
      exact ⟨rfl, Drawn0.refl _⟩
    · rw [if_neg h0, if_neg h1] at h
      split at h
      · rename_i hu
        injection h with h
        simp only [Bool.and_eq_true] at hu
        obtain ⟨hu0, hu1⟩ := hu
        have hx := unitB_iff.1 hu0
        have hy := unitB_iff.1 hu1
        have b0 := lg_lt (a := a0.toNat) (by omega) (by omega)
        have b1 := lg_lt (a := a1.toNat) (by omega) (by omega)
        have hm := ml_pos (a := a0.toNat) (b := a1.toNat) (by omega) (by omega)
        have l0 : field_log.f a0 = some (lg a0.toNat : Int) := by unfold field_log.f; rw [if_pos hu0]
        have l1 : field_log.f a1 = some (lg a1.toNat : Int) := by unfold field_log.f; rw [if_pos hu1]
        rw [hm] at h
        have e0 : (a0 == 0) = false := by simpa using h0
        have e1 : (a1 == 0) = false := by simpa using h1
        generalize lg a0.toNat = p at *
        generalize lg a1.toNat = q at *
        have HL0 := Aside0.mk l0
        have HL1 := Aside0.mk l1
        have hcell := tab_cell HT.out (p + q)
        rw [h] at hcell
        clear hx hy hm l0 l1 hu0 hu1 h h0 h1
        go_enter Tryd.func53, Tryd.ntmps53
        go_wp2_with (first
          | (go_at_call 52; refine (field_log.calls a0 _ w HT.out HL0.out).mono ?_; rintro e w' ⟨rfl, hd⟩; obtain ⟨nd, rfl⟩ := hd)
          | (go_at_call 52; refine (field_log.calls a1 _ _ (Kd.C_drewN HT.out nd) HL1.out).mono ?_; rintro e w' ⟨rfl, hd⟩; obtain ⟨nd2, rfl⟩ := hd))
        go_ret
        exact ⟨rfl, ⟨⟨_, rfl⟩⟩⟩
      · cases h

set_option maxHeartbeats 1000000 in
theorem field_inv.calls (a0 : Int) (r : Int) (w : World) (hT : Kd.C (Kd.int .u8) w (some ⟨0, 0, none⟩) 63 pwI) (h : field_inv.f a0 = some r) :
    Calls Tryd.prog 54 #[.int .u8 a0] w fun e w' => e = .returned (.int .u8 r) ∧ Drawn0 w w' := by
  have HT := Aside0.mk hT
  clear hT
  unfold field_inv.f at h
  split at h
  · rename_i hu
    injection h with h
    have hx := unitB_iff.1 hu
    have b0 := lg_lt (a := a0.toNat) (by omega) (by omega)
    have l0 : field_log.f a0 = some (lg a0.toNat : Int) := by unfold field_log.f; rw [if_pos hu]
    unfold iv at h
    generalize lg a0.toNat = p at *
    have HL0 := Aside0.mk l0
    have hcell := tab_cell HT.out (63 - p)
    rw [h] at hcell
    have hz : (63 - p) % 63 = (-(p : Int) % 63).toNat := by omega
    rw [hz] at hcell
    clear hz
    clear hx l0 hu h
    go_enter Tryd.func54, Tryd.ntmps54
    go_wp2_with (go_at_call 52; refine (field_log.calls a0 _ w HT.out HL0.out).mono ?_; rintro e w' ⟨rfl, hd⟩; obtain ⟨nd, rfl⟩ := hd)
    go_ret
    exact ⟨rfl, ⟨⟨_, rfl⟩⟩⟩
  · cases h

set_option maxHeartbeats 2000000 in
theorem field_Pow.calls (a0 : Int) (a1 : Int) (r1 : Int) (r2 : Int) (w : World) (hT : Kd.C (Kd.int .u8) w (some ⟨0, 0, none⟩) 63 pwI) (h : field_Pow.f a0 a1 = some (r1, r2)) :
    Calls Tryd.prog 28 #[.int .u8 a0, .int .i64 a1] w fun e w' => e = .returned (.tuple #[.int .u8 r1, .int .i64 r2]) ∧ Drawn0 w w' := by
  have HT := Aside0.mk hT
  clear hT
  unfold field_Pow.f at h
  by_cases h0 : a0 ≥ 64
  · rw [if_pos h0] at h
    injection h with h
    injection h with e1 e2
    subst e1 e2
    go_enter Tryd.func28, Tryd.ntmps28
    go_wp2
    go_ret2
    exact ⟨rfl, Drawn0.refl _⟩
  rw [if_neg h0] at h
  by_cases h1 : a1 = 0
  · subst h1
    rw [if_pos rfl] at h
    injection h with h
    injection h with e1 e2
    subst e1 e2
    go_enter Tryd.func28, Tryd.ntmps28
    go_wp2
    go_ret2
    exact ⟨rfl, Drawn0.refl _⟩
  rw [if_neg h1] at h
  have hb1 : (a1 == 0) = false := by simpa using h1
  by_cases h2 : a0 = 0
  · subst h2
    rw [if_pos rfl] at h
    by_cases h3 : a1 < 0
    · rw [if_pos h3] at h
      injection h with h
      injection h with e1 e2
      subst e1 e2
      clear h1
      go_enter Tryd.func28, Tryd.ntmps28
      go_wp2
      go_ret2
      exact ⟨rfl, Drawn0.refl _⟩
    · rw [if_neg h3] at h
      injection h with h
      injection h with e1 e2
      subst e1 e2
      clear h1
      go_enter Tryd.func28, Tryd.ntmps28
      go_wp2
      go_ret2
      exact ⟨rfl, Drawn0.refl _⟩
  rw [if_neg h2] at h
  have hb2 : (a0 == 0) = false := by simpa using h2
  split at h
  · rename_i hu
    obtain ⟨hu, hlo, hhi⟩ := hu
    injection h with h
    injection h with e1 e2
    have hx := unitB_iff.1 hu
    have b0 := lg_lt (a := a0.toNat) (by omega) (by omega)
    have l0 : field_log.f a0 = some (lg a0.toNat : Int) := by unfold field_log.f; rw [if_pos hu]
    generalize lg a0.toNat = p at *
    have HL0 := Aside0.mk l0
    have hcell := tab_cell HT.out (p * (a1 % 63).toNat)
    rw [e1] at hcell
    clear hx l0 hu e1 h1 h2
    subst e2
    obtain ⟨s, hs⟩ : ∃ s : Nat, (s : Int) = Int.tmod a1 63 + 63 := ⟨(Int.tmod a1 63 + 63).toNat, by have := Int.tmod_lt_of_pos a1 (show (0 : Int) < 63 by decide); have := Int.lt_tmod_of_pos a1 (show (0 : Int) < 63 by decide); omega⟩
    obtain ⟨ee, hee⟩ : ∃ ee, ee = (a1 % 63).toNat := ⟨_, rfl⟩
    have hsb : s < 126 := by have := Int.tmod_lt_of_pos a1 (show (0 : Int) < 63 by decide); omega
    have hsm : s % 63 = ee := by
      rw [hee]
      have h1 : a1 = 63 * Int.tdiv a1 63 + Int.tmod a1 63 := (Int.mul_tdiv_add_tmod a1 63).symm
      omega
    have hel : ee < 63 := by omega
    obtain ⟨m, hm⟩ : ∃ m, m = p * ee := ⟨_, rfl⟩
    have hml : m ≤ 62 * 62 := by rw [hm]; exact Nat.mul_le_mul (by omega) (by omega)
    obtain ⟨q, hq⟩ : ∃ q, q = m % 63 := ⟨_, rfl⟩
    have hql : q < 63 := by omega
    rw [← hee, ← hm, ← hq] at hcell
    have g1 : IntKind.i64.wrap (Int.tmod a1 63 + 63) = (s : Int) := by rw [← hs]; exact IntWalk.i64_in _ (by omega)
    have g2 : Int.tmod (s : Int) 63 = (ee : Int) := by rw [tmod_nat, hsm]
    have g3 : IntKind.i64.wrap ((p : Int) * (ee : Int)) = (m : Int) := by rw [show (p : Int) * (ee : Int) = (m : Int) by rw [hm]; push_cast; rfl]; exact IntWalk.i64_in _ (by omega)
    have g4 : Int.tmod (m : Int) 63 = (q : Int) := by rw [tmod_nat, hq]
    clear hs hee hsb hsm hel hm hml hq
    go_enter Tryd.func28, Tryd.ntmps28
    go_wp2
    go_quiet ((go_at_call 52; exact Calls.quiet_of ((field_log.calls a0 _ _ (Kd.C_drewN HT.out _) HL0.out).mono fun e w' h => ⟨h.1, h.2.out⟩)))
    go_wp2
    go_ret2
    exact ⟨rfl, ⟨⟨_, rfl⟩⟩⟩
  · cases h
end Go.Proofs.YtehgfpfmpkmdmaaDoor.Print
