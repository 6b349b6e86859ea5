-- Print0, Gb, Print3, Gf, Ga, Gc, Print2 (what this claim uses of them)
import Derived.Test.YtehgfpfmpkmdmaaDoorProg
import Derived.Below
import Derived.Deep.Draws
import Derived.Deep.AppendLies
import Derived.Maps.AppendAt
import Derived.OwnWalk
import Derived.Laws.BytesArg
import Derived.Laws.MakeOwn
import Derived.Laws.OwnMore
import Derived.Deep.OwnRows
import Derived.Tactics
import Derived.Lib.ConvBytes
import Derived.Laws.Slices
import Derived.WalkKit
import Derived.KernelRfl
import Derived.RowKit3
import Derived.Deep.LoopGhost
import Derived.Deep.QuietTactic
import Derived.BigQuiet
import Derived.WideLaws
import Derived.Deep.DeepCutAuto
import Derived.Deep.CutBlock
import Derived.Deep.RegionHeld3
import Derived.Laws.Rows
import Derived.Lib.AppendStr
import Derived.ArgAppend
import Derived.Laws.IdiomCopy
import Derived.OrdersHeld
import Derived.Laws.BitsLemmas
import Derived.RowKit
import Derived.Test.YtehgfpfmpkmdmaaDoorYp0
import Derived.Test.YtehgfpfmpkmdmaaDoorYp1
import Derived.Test.YtehgfpfmpkmdmaaDoorYp2
import Derived.Test.YtehgfpfmpkmdmaaDoorYp3
import Derived.Test.YtehgfpfmpkmdmaaDoorYp4
import Derived.Test.YtehgfpfmpkmdmaaDoorYp5
import Derived.Test.YtehgfpfmpkmdmaaDoorYp6
import Derived.Test.YtehgfpfmpkmdmaaDoorYp7
import Derived.Test.YtehgfpfmpkmdmaaDoorYp8
import Derived.Test.YtehgfpfmpkmdmaaDoorYp9
import Derived.Test.YtehgfpfmpkmdmaaDoorYp10
import Derived.Test.YtehgfpfmpkmdmaaDoorYp11
import Derived.Test.YtehgfpfmpkmdmaaDoorYp12
import Derived.Test.YtehgfpfmpkmdmaaDoorYp13
import Derived.Test.YtehgfpfmpkmdmaaDoorYp14
import Derived.Test.YtehgfpfmpkmdmaaDoorYp15
import Derived.Test.YtehgfpfmpkmdmaaDoorYp16
import Derived.Test.YtehgfpfmpkmdmaaDoorYp17
import Derived.Test.YtehgfpfmpkmdmaaDoorYp18
import Derived.Test.YtehgfpfmpkmdmaaDoorYp19
import Derived.Test.YtehgfpfmpkmdmaaDoorYp20
import Derived.Lib.SliceRun
namespace Go.Proofs.YtehgfpfmpkmdmaaDoor.Print
open Go.RowKit Go.Proofs.YtehgfpfmpkmdmaaDoorW.PrintWords Go.Proofs.YtehgfpfmpkmdmaaDoorW.PrintLast Go.Proofs.YtehgfpfmpkmdmaaDoorW.PrintMore
attribute [local go_sem] max2_int min2_int max_two min_two max_three min_three max_four min_four   -- for this text's walks alone
set_option linter.unusedVariables false
set_option linter.unusedSimpArgs false
theorem info5 : (Tryd.prog.info? 5).map (fun i => (i.zero, i.size, i.bytes)) = some (some (.int .u8 0), 1, 1) := by kernel_rfl
def rd_L1 (xs : List (List Int)) (i : Int) : (List Int) := xs.getD i.toNat ([] : List Int)
theorem at_L1 {w : World} {A : Option Addr} {n : Nat} {xs : List (List Int)} (h : Kd.C (Kd.slice 5 (Kd.int .u8)) w A n xs) (i : Int) (h0 : 0 ≤ i) (h1 : i < n) : ∃ ad A0 c0, A = some ad ∧ w.cell? (ad.add i.toNat) = some (.slice A0 (rd_L1 xs i).length c0) ∧ (rd_L1 xs i).length ≤ c0 ∧ (Kd.int .u8).C w A0 (rd_L1 xs i).length (rd_L1 xs i) := by
  obtain ⟨ad, c, e, _, hK, hc0⟩ := Kd.C_get h ([] : List Int) i h0 h1
  have hc : ∀ j u, c[j]? = some u → w.cell? (ad.add (i.toNat * 1 + j)) = some u := hc0
  obtain ⟨A0, c0, rfl, l0, g0⟩ := hK
  exact ⟨ad, A0, c0, e, by have hq := hc 0 _ rfl; rwa [Nat.mul_one, Nat.add_zero] at hq, l0, g0⟩
end Go.Proofs.YtehgfpfmpkmdmaaDoor.Print

namespace Go.Proofs.YtehgfpfmpkmdmaaDoor.Print
open Go.RowKit Go.Proofs.YtehgfpfmpkmdmaaDoorW.PrintWords Go.Proofs.YtehgfpfmpkmdmaaDoorW.PrintLast Go.Proofs.YtehgfpfmpkmdmaaDoorW.PrintMore
/-- Is this no element? -/
def badEl (c : Int) : Bool := decide (c ≥ 64)
def longL (l : List Int) : Bool := decide (128 < l.length)
def field_check.f (l0 : List (List Int)) : Option Int := some (if l0.any longL = true then 3 else if l0.any (fun l => l.any badEl) = true then 2 else 0)
/-- The first place from k on where p holds, or -1. -/
def idxFrom {α : Type} (p : α → Bool) : Nat → List α → Int
  | _, [] => -1
  | k, x :: xs => if p x then (k : Int) else idxFrom p (k + 1) xs
theorem idxFrom_any {α : Type} (p : α → Bool) : ∀ (l : List α) (k : Nat), decide (idxFrom p k l ≥ 0) = l.any p
  | [], k => by simp [idxFrom]
  | x :: xs, k => by
    unfold idxFrom
    cases h : p x
    · simp only [Bool.false_eq_true, if_false, List.any_cons, h, Bool.false_or]; exact idxFrom_any p xs (k + 1)
    · simp [h]
theorem idxFrom_drop {α : Type} (p : α → Bool) (z : α) (l : List α) (k : Nat) (h : k < l.length) : idxFrom p k (l.drop k) = if p (l.getD k z) then (k : Int) else idxFrom p (k + 1) (l.drop (k + 1)) := by
  rw [List.drop_eq_getElem_cons h, idxFrom]
  simp [List.getD_eq_getElem?_getD, List.getElem?_eq_getElem h]
theorem ret_bool {a b : Bool} (h : a = b) : Ending.returned (.bool a) = .returned (.bool b) := by rw [h]
theorem ret_int {k : IntKind} {a b : Int} (h : a = b) : Ending.returned (.int k a) = .returned (.int k b) := by rw [h]
theorem el58 (c : Int) (w : World) : Calls Tryd.prog 58 #[.int .u8 c] w fun e w' => e = .returned (.bool (badEl c)) ∧ w = w' := by
  go_enter Tryd.func58, Tryd.ntmps58
  go_wp2
  go_ret
  exact ⟨ret_bool (by simp [badEl]), rfl⟩
set_option maxHeartbeats 1000000 in
theorem idx63 (A : Option Addr) (c : Nat) (l : List Int) (w : World) (hr : Kd.C (Kd.int .u8) w A l.length l) :
    Calls Tryd.prog 63 #[.slice A l.length c, .func (.func 58) #[] #[]] w fun e w' => e = .returned (.int .i64 (idxFrom badEl 0 l)) ∧ w = w' := by
  have hmax : l.length ≤ 9223372036854775807 := hr.2.1
  have HR := Aside0.mk hr
  clear hr
  go_enter Tryd.func63, Tryd.ntmps63
  go_wp2
  go_loop [8] (fun i => ∃ k : Nat, k ≤ l.length ∧ i = .int .i64 k ∧ idxFrom badEl 0 l = idxFrom badEl k (l.drop k)) (fun i => l.length - (intOf i).toNat)
  case atStart => exact ⟨0, Nat.zero_le _, rfl, rfl⟩
  case round =>
    obtain ⟨k, hk, rfl, hrel⟩ := hrel
    by_cases hlt : k < l.length
    · obtain ⟨ad, rfl, hcell⟩ := Kd.at_int HR.out (k : Int) (by omega) (by omega)
      have hcell' : w.cell? (ad.add k) = some (.int .u8 (rd l k)) := hcell
      have hd := idxFrom_drop badEl 0 l k hlt
      have hrd : rd l k = l.getD k 0 := by simp [rd]
      rw [← hrd] at hd
      have HD := Aside0.mk (hrel.trans hd)
      clear hd hrel hcell hrd
      cases hb : badEl (rd l k)
      · have HB := Aside0.mk hb
        clear hb
        go_wp2_with (go_at_call 58; refine (el58 _ _).mono ?_; rintro e w' ⟨rfl, rfl⟩; rw [HB.out])
        go_round
        case rel => exact ⟨k + 1, by omega, by go_num, by rw [HD.out, HB.out]; rfl⟩
        case measure => simp [intOf]; omega
      · have HB := Aside0.mk hb
        clear hb
        go_wp2_with (go_at_call 58; refine (el58 _ _).mono ?_; rintro e w' ⟨rfl, rfl⟩; rw [HB.out])
        go_ret
        exact ⟨ret_int (by rw [HD.out, HB.out]; rfl), rfl⟩
    · have hkl : k = l.length := by omega
      have HD := Aside0.mk hrel
      have HK := Aside0.mk hkl
      clear hrel hkl
      go_wp2
      go_ret
      exact ⟨ret_int (by rw [HD.out, HK.out, List.drop_length]; rfl), rfl⟩
theorem any57 (A : Option Addr) (c : Nat) (l : List Int) (w : World) (hr : Kd.C (Kd.int .u8) w A l.length l) :
    Calls Tryd.prog 57 #[.slice A l.length c, .func (.func 58) #[] #[]] w fun e w' => e = .returned (.bool (l.any badEl)) ∧ w = w' := by
  have HR := Aside0.mk hr
  clear hr
  have HA := Aside0.mk (idxFrom_any badEl l 0)
  obtain ⟨r, hr⟩ : ∃ r, r = idxFrom badEl 0 l := ⟨_, rfl⟩
  have HE := Aside0.mk hr
  clear hr
  go_enter Tryd.func57, Tryd.ntmps57
  go_wp2_with (go_at_call 63; refine (idx63 _ _ _ _ HR.out).mono ?_; rintro e w' ⟨rfl, rfl⟩; rw [← HE.out])
  go_ret
  exact ⟨ret_bool (by rw [← HA.out, ← HE.out]), rfl⟩
theorem any_drop {α : Type} (p : α → Bool) (z : α) (l : List α) (k : Nat) (h : k < l.length) : (l.drop k).any p = (p (l.getD k z) || (l.drop (k + 1)).any p) := by
  rw [List.drop_eq_getElem_cons h, List.any_cons]
  simp [List.getD_eq_getElem?_getD, List.getElem?_eq_getElem h]
set_option maxHeartbeats 2000000 in
theorem field_check.calls (A0 : Option Addr) (c0 : Nat) (l0 : List (List Int)) (r : Int) (w : World) (hr0 : Kd.C (Kd.slice 5 (Kd.int .u8)) w A0 l0.length l0) (_hc0 : l0.length ≤ c0) (h : field_check.f l0 = some r) :
    Calls Tryd.prog 45 #[.slice A0 l0.length c0] w fun e w' => e = .returned (.int .i64 r) ∧ Drawn0 w w' := by
  have hmax : l0.length ≤ 9223372036854775807 := hr0.2.1
  have HR := Aside0.mk hr0
  clear hr0 _hc0
  unfold field_check.f at h
  injection h with h
  have H := Aside0.mk h
  clear h
  go_enter Tryd.func45, Tryd.ntmps45
  go_wp2
  go_loop [4, 9] (fun _ i => ∃ k : Nat, k ≤ l0.length ∧ i = .int .i64 k ∧ Aside0 (l0.any longL = (l0.drop k).any longL)) (fun _ i => l0.length - (intOf i).toNat)
  case atStart => exact ⟨0, Nat.zero_le _, rfl, ⟨rfl⟩⟩
  case round =>
    obtain ⟨k, hk, rfl, hrel⟩ := hrel
    by_cases hlt : k < l0.length
    · obtain ⟨ad, B, cB, rfl, hcell, hcb, hC⟩ := at_L1 HR.out (k : Int) (by omega) (by omega)
      have hcell' : w.cell? (ad.add k) = some (.slice B (rd_L1 l0 (k : Int)).length cB) := hcell
      have HD := Aside0.mk (hrel.out.trans (any_drop longL [] l0 k hlt))
      have hrd : rd_L1 l0 (k : Int) = l0.getD k [] := by simp [rd_L1]
      rw [← hrd] at HD
      generalize rd_L1 l0 (k : Int) = row at hcell' HD hC hcb
      have hml : row.length ≤ 9223372036854775807 := hC.2.1
      clear hrel hcell hrd hC
      by_cases hlong : 128 < row.length
      · have e1 : (row.length : Int) > 128 := by omega
        have HL := Aside0.mk (show longL row = true by simp [longL, hlong])
        go_wp2
        go_ret
        exact ⟨ret_int (by rw [← H.out, HD.out, HL.out]; rfl), Drawn0.refl _⟩
      · have e1 : ¬ (row.length : Int) > 128 := by omega
        have HL := Aside0.mk (show longL row = false by simp [longL]; omega)
        go_wp2
        go_round
        case rel => exact ⟨k + 1, by omega, by go_num, ⟨by rw [HD.out, HL.out]; rfl⟩⟩
        case measure => simp [intOf]; omega
    · have hkl : k = l0.length := by omega
      have HN := Aside0.mk (show l0.any longL = false by rw [hrel.out, hkl, List.drop_length]; rfl)
      clear hrel hkl
      go_wp2
      go_loop [6, 19] (fun _ i => ∃ k : Nat, k ≤ l0.length ∧ i = .int .i64 k ∧ Aside0 (l0.any (fun l => l.any badEl) = (l0.drop k).any (fun l => l.any badEl))) (fun _ i => l0.length - (intOf i).toNat)
      case atStart => exact ⟨0, Nat.zero_le _, rfl, ⟨rfl⟩⟩
      case round =>
        obtain ⟨q, hq, rfl, hrel⟩ := hrel
        by_cases hlq : q < l0.length
        · obtain ⟨ad, B, cB, rfl, hcell, hcb, hC⟩ := at_L1 HR.out (q : Int) (by omega) (by omega)
          have hcell' : w.cell? (ad.add q) = some (.slice B (rd_L1 l0 (q : Int)).length cB) := hcell
          have HD := Aside0.mk (hrel.out.trans (any_drop (fun l => l.any badEl) [] l0 q hlq))
          have hrd : rd_L1 l0 (q : Int) = l0.getD q [] := by simp [rd_L1]
          rw [← hrd] at HD
          generalize rd_L1 l0 (q : Int) = row at hcell' HD hC hcb
          have HC := Aside0.mk hC
          clear hrel hcell hrd hC
          cases hb : row.any badEl
          · have HB := Aside0.mk hb
            clear hb
            go_wp2_with (go_at_call 57; refine (any57 _ _ _ _ HC.out).mono ?_; rintro e w' ⟨rfl, rfl⟩; rw [HB.out])
            go_round
            case rel => exact ⟨q + 1, by omega, by go_num, ⟨by rw [HD.out, HB.out]; rfl⟩⟩
            case measure => simp [intOf]; omega
          · have HB := Aside0.mk hb
            clear hb
            go_wp2_with (go_at_call 57; refine (any57 _ _ _ _ HC.out).mono ?_; rintro e w' ⟨rfl, rfl⟩; rw [HB.out])
            go_ret
            exact ⟨ret_int (by rw [← H.out, HN.out, HD.out, HB.out]; rfl), Drawn0.refl _⟩
        · have hql : q = l0.length := by omega
          have HN2 := Aside0.mk (show l0.any (fun l => l.any badEl) = false by rw [hrel.out, hql, List.drop_length]; rfl)
          clear hrel hql
          go_wp2
          go_ret
          exact ⟨ret_int (by rw [← H.out, HN.out, HN2.out]; rfl), Drawn0.refl _⟩
end Go.Proofs.YtehgfpfmpkmdmaaDoor.Print

namespace Go.Proofs.YtehgfpfmpkmdmaaDoor.Print
open Go.RowKit Go.Proofs.YtehgfpfmpkmdmaaDoorW.PrintWords Go.Proofs.YtehgfpfmpkmdmaaDoorW.PrintLast Go.Proofs.YtehgfpfmpkmdmaaDoorW.PrintMore
attribute [local go_sem] max2_int min2_int max_two min_two max_three min_three max_four min_four   -- for this text's walks alone
set_option linter.unusedVariables false
set_option linter.unusedSimpArgs false
def slices_Index_uint8_uint8.l0 : Nat → List Int → Int → Int → Int → Option (Int)
  | 0, _, _, _, _ => none
  | k + 1, x0, x1, x7, x8 => if x8 < x7 then (if 0 ≤ x8 then (if x8 < (x0.length : Int) then (if x1 = (rd x0 x8) then (some x8) else (slices_Index_uint8_uint8.l0 k x0 x1 x7 (wrap64 (x8 + 1)))) else (none)) else (none)) else (some (-1))
def slices_Index_uint8_uint8.f (k : Nat) (l0 : List Int) (a1 : Int) : Option (Int) := slices_Index_uint8_uint8.l0 k l0 a1 (l0.length : Int) 0
set_option maxHeartbeats 8000000 in
set_option maxRecDepth 100000 in
theorem slices_Index_uint8_uint8.calls (k : Nat) (A0 : Option Addr) (c0 : Nat) (l0 : List Int) (a1 : Int) (r : Int) (w : World) (hr0 : Kd.C (Kd.int .u8) w A0 l0.length l0) (hc0 : l0.length ≤ c0) (h : slices_Index_uint8_uint8.f k l0 a1 = some r) :
    Calls Tryd.prog 61 #[.slice A0 l0.length c0, .int .u8 a1] w fun e w' => e = .returned (.int .i64 r) ∧ Drawn0 w w' := by
  have HR0 := Aside0.mk hr0
  have HC0 := Aside0.mk hc0
  clear hr0 hc0
  have H : (slices_Index_uint8_uint8.l0 k l0 a1 (l0.length : Int) 0) = some r := h
  clear h
  have H' := Aside0.mk H
  clear H
  go_enter Tryd.func61, Tryd.ntmps61
  go_wp2
  go_loopg [8] k (fun kq v8 w' => ∃ (x8_1 : Int), v8 = .int .i64 x8_1 ∧ Aside0 (slices_Index_uint8_uint8.l0 kq l0 a1 (l0.length : Int) x8_1 = some r) ∧ Aside0 (kq ≤ k) ∧ Drawn0 w w')
  case atStart => exact ⟨(0), (by first | rfl | (simp; done) | (simp [*]; done)), H', ⟨Nat.le_refl _⟩, by repeat (first | exact Drawn0.refl _ | apply Drawn0.step)⟩
  case round =>
    clear H'
    try clear p2
    obtain ⟨x8_1, rfl, HA, HK1, ⟨m1, rfl⟩⟩ := hrel
    cases gk with
    | zero => exact absurd HA.out (by simp [slices_Index_uint8_uint8.l0])
    | succ k1 =>
      have H := HA.out
      clear HA
      simp only [slices_Index_uint8_uint8.l0] at H
      by_cases c3 : x8_1 < (l0.length : Int)
      · rw [if_pos c3] at H
        have c3b0 : decide (x8_1 < (l0.length : Int)) = true := decide_eq_true c3
        clear c3
        by_cases c4 : 0 ≤ x8_1
        · rw [if_pos c4] at H
          have c4b0 : decide (0 ≤ x8_1) = true := decide_eq_true c4
          clear c4
          by_cases c5 : x8_1 < (l0.length : Int)
          · rw [if_pos c5] at H
            have c5b0 : decide (x8_1 < (l0.length : Int)) = true := decide_eq_true c5
            clear c5
            by_cases c6 : a1 = (rd l0 x8_1)
            · rw [if_pos c6] at H
              have c6b0 : (a1 == (rd l0 x8_1)) = true := beq_iff_eq.mpr c6
              have c6b1 : (a1 != (rd l0 x8_1)) = false := bne_eq_false_iff_eq.mpr c6
              clear c6
              obtain rfl := Option.some.inj H
              have p110 : 0 ≤ (x8_1 : Int) := of_decide_eq_true (by first | (with_reducible assumption) | assumption)
              have q110 : x8_1 < (l0.length : Int) := of_decide_eq_true (by first | (with_reducible assumption) | assumption)
              obtain ⟨ad110, e110, hx110_0⟩ := Kd.at_int HR0.out x8_1 p110 q110
              cases e110
              replace p110 := eq_true p110
              replace q110 := eq_true q110
              go_wp2
              go_ret
              exact ⟨by first | rfl | (simp; done) | (simp [*]; done), by repeat (first | exact Drawn0.refl _ | apply Drawn0.step)⟩
            · rw [if_neg c6] at H
              have c6b0 : (a1 == (rd l0 x8_1)) = false := beq_eq_false_iff_ne.mpr c6
              have c6b1 : (a1 != (rd l0 x8_1)) = true := bne_iff_ne.mpr c6
              have H' := Aside0.mk H
              clear H
              have p110 : 0 ≤ (x8_1 : Int) := of_decide_eq_true (by first | (with_reducible assumption) | assumption)
              have q110 : x8_1 < (l0.length : Int) := of_decide_eq_true (by first | (with_reducible assumption) | assumption)
              obtain ⟨ad110, e110, hx110_0⟩ := Kd.at_int HR0.out x8_1 p110 q110
              cases e110
              replace p110 := eq_true p110
              replace q110 := eq_true q110
              go_wp2
              go_roundg k1
              case measure => have := HK1.out; omega
              case rel => exact ⟨(wrap64 (x8_1 + 1)), (by first | rfl | (simp; done) | (simp [*]; done)), H', ⟨by have := HK1.out; omega⟩, by repeat (first | exact Drawn0.refl _ | apply Drawn0.step)⟩
          · rw [if_neg c5] at H
            exact absurd H (by simp)
        · rw [if_neg c4] at H
          exact absurd H (by simp)
      · rw [if_neg c3] at H
        have c3b0 : decide (x8_1 < (l0.length : Int)) = false := decide_eq_false c3
        clear c3
        obtain rfl := Option.some.inj H
        go_wp2
        go_ret
        exact ⟨by first | rfl | (simp; done) | (simp [*]; done), by repeat (first | exact Drawn0.refl _ | apply Drawn0.step)⟩
end Go.Proofs.YtehgfpfmpkmdmaaDoor.Print

/- The field of 64 elements on natural numbers below 64: sums are exclusive ors, products go by a table of the powers of 2. Plain facts, no program. -/
namespace Go.Proofs.YtehgfpfmpkmdmaaDoor.Gf
def pw : List Nat := [1, 2, 4, 8, 16, 32, 3, 6, 12, 24, 48, 35, 5, 10, 20, 40, 19, 38, 15, 30, 60, 59, 53, 41, 17, 34, 7, 14, 28, 56, 51, 37, 9, 18, 36, 11, 22, 44, 27, 54, 47, 29, 58, 55, 45, 25, 50, 39, 13, 26, 52, 43, 21, 42, 23, 46, 31, 62, 63, 61, 57, 49, 33]
def ex (n : Nat) : Nat := pw.getD (n % 63) 0
def lg (a : Nat) : Nat := pw.idxOf a
def ml (a b : Nat) : Nat := if a = 0 ∨ b = 0 then 0 else ex (lg a + lg b)
def iv (a : Nat) : Nat := ex (63 - lg a)
def dbl (a : Nat) : Nat := if a < 32 then 2 * a else (2 * a) ^^^ 67
theorem tab_ex : ∀ n, n < 63 → (pw.getD n 0 ≠ 0 ∧ pw.getD n 0 < 64 ∧ pw.idxOf (pw.getD n 0) = n) := by decide +kernel
theorem tab_lg : ∀ a, a < 64 → a ≠ 0 → (pw.idxOf a < 63 ∧ pw.getD (pw.idxOf a) 0 = a) := by decide +kernel
theorem ex_ne (n : Nat) : ex n ≠ 0 := (tab_ex _ (Nat.mod_lt _ (by decide))).1
theorem ex_lt (n : Nat) : ex n < 64 := (tab_ex _ (Nat.mod_lt _ (by decide))).2.1
theorem lg_ex (n : Nat) : lg (ex n) = n % 63 := (tab_ex _ (Nat.mod_lt _ (by decide))).2.2
theorem lg_lt {a : Nat} (h : a < 64) (h0 : a ≠ 0) : lg a < 63 := (tab_lg a h h0).1
theorem ex_lg {a : Nat} (h : a < 64) (h0 : a ≠ 0) : ex (lg a) = a := by
  have := tab_lg a h h0
  unfold ex lg
  rw [Nat.mod_eq_of_lt this.1]
  exact this.2
theorem ml_zero_left (b : Nat) : ml 0 b = 0 := by simp [ml]
theorem ml_zero_right (a : Nat) : ml a 0 = 0 := by simp [ml]
theorem ml_lt (a b : Nat) : ml a b < 64 := by
  unfold ml
  split
  · decide
  · exact ex_lt _
theorem ml_comm (a b : Nat) : ml a b = ml b a := by
  unfold ml
  rw [Nat.add_comm]
  simp only [Or.comm]
theorem ml_ne {a b : Nat} (ha : a ≠ 0) (hb : b ≠ 0) : ml a b ≠ 0 := by
  unfold ml
  rw [if_neg (by simp [ha, hb])]
  exact ex_ne _
theorem ml_eq_zero {a b : Nat} (h : ml a b = 0) : a = 0 ∨ b = 0 := by
  rcases Nat.eq_zero_or_pos a with h1 | h1
  · exact .inl h1
  · rcases Nat.eq_zero_or_pos b with h2 | h2
    · exact .inr h2
    · exact absurd h (ml_ne (by omega) (by omega))
theorem ml_pos {a b : Nat} (ha : a ≠ 0) (hb : b ≠ 0) : ml a b = ex (lg a + lg b) := by
  unfold ml
  rw [if_neg (by simp [ha, hb])]
theorem ml_assoc (a b c : Nat) : ml (ml a b) c = ml a (ml b c) := by
  by_cases ha : a = 0
  · subst ha; simp [ml_zero_left]
  by_cases hb : b = 0
  · subst hb; simp [ml_zero_left, ml_zero_right]
  by_cases hc : c = 0
  · subst hc; simp [ml_zero_right]
  rw [ml_pos (ml_ne ha hb) hc, ml_pos ha (ml_ne hb hc), ml_pos ha hb, ml_pos hb hc, lg_ex, lg_ex]
  unfold ex
  congr 1
  omega
theorem ml_one {a : Nat} (h : a < 64) : ml a 1 = a := by
  by_cases ha : a = 0
  · subst ha; decide
  · rw [ml_pos ha (by decide)]
    have : lg 1 = 0 := by decide
    rw [this, Nat.add_zero, ex_lg h ha]
theorem one_ml {a : Nat} (h : a < 64) : ml 1 a = a := by rw [ml_comm, ml_one h]
theorem iv_lt (a : Nat) : iv a < 64 := ex_lt _
theorem iv_ne (a : Nat) : iv a ≠ 0 := ex_ne _
theorem ml_iv {a : Nat} (h : a < 64) (h0 : a ≠ 0) : ml a (iv a) = 1 := by
  unfold iv
  rw [ml_pos h0 (ex_ne _), lg_ex]
  have := lg_lt h h0
  unfold ex
  rw [show (lg a + (63 - lg a) % 63) % 63 = 0 by omega]
  rfl
theorem iv_ml {a : Nat} (h : a < 64) (h0 : a ≠ 0) : ml (iv a) a = 1 := by rw [ml_comm, ml_iv h h0]
theorem xor_lt {a b : Nat} (ha : a < 64) (hb : b < 64) : a ^^^ b < 64 := Nat.xor_lt_two_pow (n := 6) ha hb
theorem dbl_is : ∀ a, a < 64 → ml 2 a = dbl a := by decide +kernel
theorem dbl_xor : ∀ a, a < 64 → ∀ b, b < 64 → dbl (a ^^^ b) = dbl a ^^^ dbl b := by decide +kernel
theorem two_xor {a b : Nat} (ha : a < 64) (hb : b < 64) : ml 2 (a ^^^ b) = ml 2 a ^^^ ml 2 b := by
  rw [dbl_is _ (xor_lt ha hb), dbl_is a ha, dbl_is b hb, dbl_xor a ha b hb]
theorem ex_succ (n : Nat) : ex (n + 1) = ml 2 (ex n) := by
  rw [ml_pos (by decide) (ex_ne n), lg_ex]
  have : lg 2 = 1 := by decide
  rw [this]
  unfold ex
  congr 1
  omega
theorem ex_distrib (n : Nat) {b c : Nat} (hb : b < 64) (hc : c < 64) : ml (ex n) (b ^^^ c) = ml (ex n) b ^^^ ml (ex n) c := by
  induction n with
  | zero =>
    have : ex 0 = 1 := by decide
    rw [this, one_ml hb, one_ml hc, one_ml (xor_lt hb hc)]
  | succ n ih => rw [ex_succ, ml_assoc, ml_assoc, ml_assoc, ih, two_xor (ml_lt _ _) (ml_lt _ _)]
theorem ml_xor {a b c : Nat} (ha : a < 64) (hb : b < 64) (hc : c < 64) : ml a (b ^^^ c) = ml a b ^^^ ml a c := by
  by_cases h0 : a = 0
  · subst h0; simp [ml_zero_left]
  · rw [← ex_lg ha h0]; exact ex_distrib _ hb hc
theorem xor_ml {a b c : Nat} (ha : a < 64) (hb : b < 64) (hc : c < 64) : ml (b ^^^ c) a = ml b a ^^^ ml c a := by
  rw [ml_comm, ml_xor ha hb hc, ml_comm a b, ml_comm a c]
end Go.Proofs.YtehgfpfmpkmdmaaDoor.Gf
/- The field of 64 elements as a type, and polynomials over it as lists of coefficients: sums, products, values, degrees, division with its uniqueness, roots. Plain Lean, no program. -/
namespace Go.Proofs.YtehgfpfmpkmdmaaDoor.Gf
/-- An element. -/
structure F where
  v : Nat
  h : v < 64
deriving DecidableEq
theorem F.ext {a b : F} (h : a.v = b.v) : a = b := by
  cases a; cases b; simp_all
instance : Add F := ⟨fun a b => ⟨a.v ^^^ b.v, xor_lt a.h b.h⟩⟩
instance : Mul F := ⟨fun a b => ⟨ml a.v b.v, ml_lt _ _⟩⟩
instance : OfNat F 0 := ⟨⟨0, by decide⟩⟩
instance : OfNat F 1 := ⟨⟨1, by decide⟩⟩
instance : Inhabited F := ⟨0⟩
def inv (a : F) : F := ⟨iv a.v, iv_lt _⟩
theorem add_v (a b : F) : (a + b).v = a.v ^^^ b.v := rfl
theorem mul_v (a b : F) : (a * b).v = ml a.v b.v := rfl
theorem ne_v {a : F} (h : a ≠ 0) : a.v ≠ 0 := fun e => h (F.ext e)
theorem add_comm (a b : F) : a + b = b + a := F.ext (Nat.xor_comm _ _)
theorem add_assoc (a b c : F) : a + b + c = a + (b + c) := F.ext (Nat.xor_assoc _ _ _)
theorem add_zero (a : F) : a + 0 = a := F.ext (Nat.xor_zero _)
theorem zero_add (a : F) : 0 + a = a := F.ext (Nat.zero_xor _)
theorem add_self (a : F) : a + a = 0 := F.ext (Nat.xor_self a.v)
theorem mul_comm (a b : F) : a * b = b * a := F.ext (ml_comm _ _)
theorem mul_assoc (a b c : F) : a * b * c = a * (b * c) := F.ext (ml_assoc _ _ _)
theorem mul_one (a : F) : a * 1 = a := F.ext (ml_one a.h)
theorem one_mul (a : F) : 1 * a = a := F.ext (one_ml a.h)
theorem mul_zero (a : F) : a * 0 = 0 := F.ext (ml_zero_right a.v)
theorem zero_mul (a : F) : 0 * a = 0 := F.ext (ml_zero_left a.v)
theorem add_mul (a b c : F) : (b + c) * a = b * a + c * a := F.ext (xor_ml a.h b.h c.h)
theorem mul_inv {a : F} (h : a ≠ 0) : a * inv a = 1 := F.ext (ml_iv a.h (ne_v h))
theorem inv_mul {a : F} (h : a ≠ 0) : inv a * a = 1 := F.ext (iv_ml a.h (ne_v h))
theorem mul_eq_zero {a b : F} (h : a * b = 0) : a = 0 ∨ b = 0 := by
  rcases ml_eq_zero (congrArg F.v h) with h | h
  · exact .inl (F.ext h)
  · exact .inr (F.ext h)
instance : Std.Associative (α := F) (· + ·) := ⟨add_assoc⟩
instance : Std.Commutative (α := F) (· + ·) := ⟨add_comm⟩
instance : Std.Associative (α := F) (· * ·) := ⟨mul_assoc⟩
instance : Std.Commutative (α := F) (· * ·) := ⟨mul_comm⟩
theorem eq_of_add {a b : F} (h : a + b = 0) : a = b := by
  have := congrArg (a + ·) h
  simp only [← add_assoc, add_self, zero_add, add_zero] at this
  exact this.symm
theorem mul_cancel {a b c : F} (ha : a ≠ 0) (h : a * b = a * c) : b = c := by
  have := congrArg (inv a * ·) h
  simpa [← mul_assoc, inv_mul ha, one_mul] using this
abbrev Poly := List F
/-- The coefficient at i, 0 where there is none. -/
def cf (p : Poly) (i : Nat) : F := p.getD i 0
theorem cf_nil (i : Nat) : cf [] i = 0 := rfl
theorem cf_zero (a : F) (p : Poly) : cf (a :: p) 0 = a := rfl
theorem cf_succ (a : F) (p : Poly) (i : Nat) : cf (a :: p) (i + 1) = cf p i := rfl
theorem cf_ge {p : Poly} {i : Nat} (h : p.length ≤ i) : cf p i = 0 := by
  simp [cf, List.getD_eq_getElem?_getD, List.getElem?_eq_none h]
theorem cf_get {p : Poly} {i : Nat} (h : i < p.length) : cf p i = p[i] := by
  simp [cf, List.getD_eq_getElem?_getD, List.getElem?_eq_getElem h]
/-- The same polynomial. -/
def Eqv (p q : Poly) : Prop := ∀ i, cf p i = cf q i
theorem Eqv.refl (p : Poly) : Eqv p p := fun _ => rfl
theorem Eqv.symm {p q : Poly} (h : Eqv p q) : Eqv q p := fun i => (h i).symm
theorem Eqv.trans {p q r : Poly} (h : Eqv p q) (k : Eqv q r) : Eqv p r := fun i => (h i).trans (k i)
/-- Without the zeros at its end. -/
def tr : Poly → Poly
  | [] => []
  | a :: p => match tr p with
    | [] => if a = 0 then [] else [a]
    | b :: t => a :: b :: t
theorem tr_eqv : ∀ p : Poly, Eqv (tr p) p
  | [], _ => rfl
  | a :: p, i => by
    have ih := tr_eqv p
    rw [tr]
    cases h : tr p with
    | nil =>
      rw [h] at ih
      simp only
      split
      · rename_i h0
        cases i with
        | zero => exact h0.symm
        | succ i => exact ih i
      · cases i with
        | zero => rfl
        | succ i => exact ih i
    | cons b t =>
      rw [h] at ih
      simp only
      cases i with
      | zero => rfl
      | succ i => exact ih i
theorem tr_nil_of {p : Poly} (h : Eqv p []) : tr p = [] := by
  induction p with
  | nil => rfl
  | cons a p ih => rw [tr, ih (fun i => h (i + 1))]; simp only; exact if_pos (h 0)
theorem tr_canon {p q : Poly} (h : Eqv p q) : tr p = tr q := by
  induction p generalizing q with
  | nil => exact (tr_nil_of h.symm).symm
  | cons a p ih =>
    cases q with
    | nil => exact tr_nil_of h
    | cons b q => rw [tr, tr, show a = b from h 0, ih (fun i => h (i + 1))]
theorem tr_tr (p : Poly) : tr (tr p) = tr p := tr_canon (tr_eqv p)
/-- One more than the degree. -/
def dg (p : Poly) : Nat := (tr p).length
theorem dg_eqv {p q : Poly} (h : Eqv p q) : dg p = dg q := by rw [dg, tr_canon h, dg]
theorem dg_ge {p : Poly} {i : Nat} (h : dg p ≤ i) : cf p i = 0 := by rw [← tr_eqv p i]; exact cf_ge h
theorem tr_len : ∀ p : Poly, (tr p).length ≤ p.length
  | [] => Nat.le_refl _
  | a :: p => by
    have ih := tr_len p
    rw [tr]
    cases h : tr p with
    | nil => simp only; split <;> simp
    | cons b t => rw [h] at ih; simpa using ih
theorem dg_len (p : Poly) : dg p ≤ p.length := tr_len p
theorem tr_top : ∀ p : Poly, tr p ≠ [] → cf p ((tr p).length - 1) ≠ 0
  | [], h => absurd rfl h
  | a :: p, h => by
    have ih := tr_top p
    rw [tr] at h ⊢
    cases hp : tr p with
    | nil =>
      rw [hp] at h
      simp only at h ⊢
      split
      · rename_i h0; simp [h0] at h
      · rename_i h0; exact h0
    | cons b t =>
      rw [hp] at ih
      have := ih (by simp)
      exact this
theorem dg_top {p : Poly} (h : 0 < dg p) : cf p (dg p - 1) ≠ 0 := tr_top p (fun e => by rw [dg, e] at h; exact absurd h (by simp))
theorem dg_le {p : Poly} {n : Nat} (h : ∀ i, n ≤ i → cf p i = 0) : dg p ≤ n := by
  rcases Nat.lt_or_ge n (dg p) with h1 | h1
  · exact absurd (h (dg p - 1) (by omega)) (dg_top (by omega))
  · exact h1
theorem dg_eq {p : Poly} {n : Nat} (h : ∀ i, n < i → cf p i = 0) (h0 : cf p n ≠ 0) : dg p = n + 1 := by
  have h1 : dg p ≤ n + 1 := dg_le (fun i hi => h i (by omega))
  rcases Nat.lt_or_ge n (dg p) with h2 | h2
  · omega
  · exact absurd (dg_ge h2) h0
theorem dg_zero {p : Poly} (h : dg p = 0) : Eqv p [] := fun _ => dg_ge (by omega)
theorem tr_id {p : Poly} (h : p = [] ∨ cf p (p.length - 1) ≠ 0) : tr p = p := by
  induction p with
  | nil => rfl
  | cons a p ih =>
    rcases h with h | h
    · cases h
    · cases p with
      | nil =>
        rw [tr]
        have : a ≠ 0 := h
        simp [tr, this]
      | cons b t =>
        have h2 := ih (.inr (by simpa [cf] using h))
        rw [tr, h2]
/-- Two lists without zeros at their ends that are the same polynomial are the same list. -/
theorem tr_eq_of {p q : Poly} (h : Eqv p q) (hp : p = [] ∨ cf p (p.length - 1) ≠ 0) : p = tr q := by rw [← tr_canon h, tr_id hp]
def addP : Poly → Poly → Poly
  | [], q => q
  | p, [] => p
  | a :: p, b :: q => (a + b) :: addP p q
theorem cf_add : ∀ (p q : Poly) (i : Nat), cf (addP p q) i = cf p i + cf q i
  | [], q, i => by rw [addP, cf_nil, zero_add]
  | a :: p, [], i => by rw [addP, cf_nil, add_zero]; intro h; cases h
  | a :: p, b :: q, i => by
    rw [addP]
    cases i with
    | zero => rfl
    | succ i => exact cf_add p q i
def smul (c : F) (p : Poly) : Poly := p.map (c * ·)
theorem cf_smul (c : F) (p : Poly) (i : Nat) : cf (smul c p) i = c * cf p i := by
  unfold smul cf
  rw [List.getD_eq_getElem?_getD, List.getD_eq_getElem?_getD, List.getElem?_map]
  cases p[i]? with
  | none => exact (mul_zero c).symm
  | some a => rfl
def mulP : Poly → Poly → Poly
  | [], _ => []
  | a :: p, q => addP (smul a q) (0 :: mulP p q)
/-- The sum of f 0 .. f (n - 1). -/
def sn (f : Nat → F) : Nat → F
  | 0 => 0
  | n + 1 => sn f n + f n
theorem sn_zero {f : Nat → F} {n : Nat} (h : ∀ k, k < n → f k = 0) : sn f n = 0 := by
  induction n with
  | zero => rfl
  | succ n ih => rw [sn, ih (fun k hk => h k (by omega)), h n (by omega), add_zero]
theorem sn_congr {f g : Nat → F} {n : Nat} (h : ∀ k, k < n → f k = g k) : sn f n = sn g n := by
  induction n with
  | zero => rfl
  | succ n ih => rw [sn, sn, ih (fun k hk => h k (by omega)), h n (by omega)]
theorem sn_first (f : Nat → F) (n : Nat) : sn f (n + 1) = f 0 + sn (fun k => f (k + 1)) n := by
  induction n with
  | zero => simp [sn, zero_add, add_zero]
  | succ n ih => rw [sn, ih, sn, add_assoc]
theorem sn_one {f : Nat → F} {n j : Nat} (hj : j < n) (h : ∀ k, k < n → k ≠ j → f k = 0) : sn f n = f j := by
  induction n with
  | zero => omega
  | succ n ih =>
    rw [sn]
    by_cases e : j = n
    · subst e
      rw [sn_zero (fun k hk => h k (by omega) (by omega)), zero_add]
    · rw [ih (by omega) (fun k hk => h k (by omega)), h n (by omega) (by omega), add_zero]
theorem sn_add (f g : Nat → F) (n : Nat) : sn (fun k => f k + g k) n = sn f n + sn g n := by
  induction n with
  | zero => exact (add_zero 0).symm
  | succ n ih => rw [sn, sn, sn, ih]; ac_rfl
theorem cf_mul (p q : Poly) (n : Nat) : cf (mulP p q) n = sn (fun k => cf p k * cf q (n - k)) (n + 1) := by
  induction p generalizing n with
  | nil => exact (sn_zero (fun k _ => by rw [cf_nil, zero_mul])).symm
  | cons a p ih =>
    rw [mulP, cf_add, cf_smul]
    rw [sn_first]
    congr 1
    cases n with
    | zero => rfl
    | succ n =>
      rw [cf_succ, ih]
      refine sn_congr (fun k hk => ?_)
      rw [cf_succ, Nat.add_sub_add_right]
theorem mul_top {p q : Poly} {m n : Nat} (hp : ∀ i, m < i → cf p i = 0) (hq : ∀ i, n < i → cf q i = 0) : cf (mulP p q) (m + n) = cf p m * cf q n := by
  rw [cf_mul, sn_one (j := m) (by omega)]
  · rw [show m + n - m = n by omega]
  · intro k hk hne
    rcases Nat.lt_or_ge m k with h | h
    · rw [hp k h, zero_mul]
    · rw [hq (m + n - k) (by omega), mul_zero]
theorem mul_above {p q : Poly} {m n i : Nat} (hp : ∀ i, m < i → cf p i = 0) (hq : ∀ i, n < i → cf q i = 0) (hi : m + n < i) : cf (mulP p q) i = 0 := by
  rw [cf_mul]
  refine sn_zero (fun k hk => ?_)
  rcases Nat.lt_or_ge m k with h | h
  · rw [hp k h, zero_mul]
  · rw [hq (i - k) (by omega), mul_zero]
theorem dg_mul {p q : Poly} (hp : 0 < dg p) (hq : 0 < dg q) : dg (mulP p q) = dg p + dg q - 1 := by
  have h1 : ∀ i, dg p - 1 < i → cf p i = 0 := fun i hi => dg_ge (by omega)
  have h2 : ∀ i, dg q - 1 < i → cf q i = 0 := fun i hi => dg_ge (by omega)
  have := dg_eq (p := mulP p q) (n := (dg p - 1) + (dg q - 1)) (fun i hi => mul_above h1 h2 hi) (by
    rw [mul_top h1 h2]
    intro h
    rcases mul_eq_zero h with h | h
    · exact dg_top hp h
    · exact dg_top hq h)
  omega
theorem mul_nil {p q : Poly} (h : Eqv p [] ∨ Eqv q []) : Eqv (mulP p q) [] := fun i => by
  rw [cf_mul, cf_nil]
  refine sn_zero (fun k _ => ?_)
  rcases h with h | h
  · rw [h k, cf_nil, zero_mul]
  · rw [h (i - k), cf_nil, mul_zero]
theorem mul_eqv {p p' q q' : Poly} (h : Eqv p p') (k : Eqv q q') : Eqv (mulP p q) (mulP p' q') := fun i => by
  rw [cf_mul, cf_mul]
  exact sn_congr fun j _ => by rw [h j, k (i - j)]
theorem add_eqv {p p' q q' : Poly} (h : Eqv p p') (k : Eqv q q') : Eqv (addP p q) (addP p' q') := fun i => by
  rw [cf_add, cf_add, h i, k i]
theorem dg_add_le {p q : Poly} {n : Nat} (hp : dg p ≤ n) (hq : dg q ≤ n) : dg (addP p q) ≤ n :=
  dg_le fun i hi => by rw [cf_add, dg_ge (by omega), dg_ge (by omega), add_zero]
theorem add_mulP (p p' q : Poly) : Eqv (mulP (addP p p') q) (addP (mulP p q) (mulP p' q)) := fun i => by
  rw [cf_mul, cf_add, cf_mul, cf_mul, ← sn_add]
  exact sn_congr fun k _ => by rw [cf_add, add_mul]
/-- Division has one answer. -/
theorem div_unique {q d d' r r' : Poly} (hr : dg r < dg q) (hr' : dg r' < dg q) (h : Eqv (addP (mulP d q) r) (addP (mulP d' q) r')) : Eqv d d' ∧ Eqv r r' := by
  have hs : Eqv (mulP (addP d d') q) (addP r r') := fun i => by
    have := h i
    rw [cf_add, cf_add] at this
    rw [add_mulP, cf_add, cf_add]
    refine eq_of_add ?_
    calc cf (mulP d q) i + cf (mulP d' q) i + (cf r i + cf r' i) = (cf (mulP d q) i + cf r i) + (cf (mulP d' q) i + cf r' i) := by ac_rfl
      _ = 0 := by rw [this, add_self]
  have hd0 : dg (addP d d') = 0 := by
    rcases Nat.eq_zero_or_pos (dg (addP d d')) with h0 | h0
    · exact h0
    · have h1 := dg_mul h0 (show 0 < dg q by omega)
      have h2 := dg_eqv hs
      have h3 := dg_add_le (p := r) (q := r') (n := dg q - 1) (by omega) (by omega)
      omega
  have e1 : Eqv d d' := fun i => by
    have := dg_zero hd0 i
    rw [cf_add] at this
    exact eq_of_add this
  refine ⟨e1, fun i => ?_⟩
  have h2 := hs i
  rw [mul_nil (.inl (dg_zero hd0)) i, cf_nil, cf_add] at h2
  exact eq_of_add h2.symm
end Go.Proofs.YtehgfpfmpkmdmaaDoor.Gf

namespace Go.Proofs.YtehgfpfmpkmdmaaDoor.Print
open Go.RowKit Go.Proofs.YtehgfpfmpkmdmaaDoorW.PrintWords Go.Proofs.YtehgfpfmpkmdmaaDoorW.PrintLast Go.Proofs.YtehgfpfmpkmdmaaDoorW.PrintMore
open Go.Proofs.YtehgfpfmpkmdmaaDoor.Gf
def pwI : List Int := [1, 2, 4, 8, 16, 32, 3, 6, 12, 24, 48, 35, 5, 10, 20, 40, 19, 38, 15, 30, 60, 59, 53, 41, 17, 34, 7, 14, 28, 56, 51, 37, 9, 18, 36, 11, 22, 44, 27, 54, 47, 29, 58, 55, 45, 25, 50, 39, 13, 26, 52, 43, 21, 42, 23, 46, 31, 62, 63, 61, 57, 49, 33]
/-- Is this an element other than 0? -/
def unitB (a : Int) : Bool := decide (0 < a) && decide (a < 64)
theorem unitB_iff {a : Int} : unitB a = true ↔ 0 < a ∧ a < 64 := by simp [unitB]
def field_log.f (a0 : Int) : Option Int := if unitB a0 = true then some (lg a0.toNat : Int) else none
def field_mul.f (a0 a1 : Int) : Option Int := if a0 = 0 then some 0 else if a1 = 0 then some 0 else if (unitB a0 && unitB a1) = true then some (ml a0.toNat a1.toNat : Int) else none
def field_inv.f (a0 : Int) : Option Int := if unitB a0 = true then some (iv a0.toNat : Int) else none
def field_Pow.f (a0 a1 : Int) : Option (Int × Int) :=
  if a0 ≥ 64 then some (0, 2) else if a1 = 0 then some (1, 0) else if a0 = 0 then (if a1 < 0 then some (0, 6) else some (0, 0)) else
  if unitB a0 = true ∧ -9223372036854775808 ≤ a1 ∧ a1 ≤ 9223372036854775807 then some (ex (lg a0.toNat * (a1 % 63).toNat) , 0) else none
theorem index_all : (List.range 63).all (fun i => slices_Index_uint8_uint8.f 64 pwI ((ex i : Nat) : Int) == some (i : Int)) = true := by decide +kernel
theorem index_unit {a : Int} (h : unitB a = true) : slices_Index_uint8_uint8.f 64 pwI a = some (lg a.toNat : Int) := by
  obtain ⟨h0, h1⟩ := unitB_iff.1 h
  have h2 : a.toNat ≠ 0 := by omega
  have h3 := lg_lt (a := a.toNat) (by omega) h2
  have h4 := List.all_eq_true.1 index_all (lg a.toNat) (by simpa using h3)
  rw [ex_lg (by omega) h2] at h4
  rw [show ((a.toNat : Nat) : Int) = a by omega] at h4
  simpa using h4
theorem pw_rd (n : Nat) : rd pwI ((n % 63 : Nat) : Int) = (ex n : Int) := by
  have h : ∀ i : Nat, i < 63 → rd pwI (i : Int) = ((pw.getD i 0 : Nat) : Int) := by decide +kernel
  have := h (n % 63) (Nat.mod_lt _ (by decide))
  rw [this]
  rfl
theorem tmod_nat (n : Nat) : Int.tmod (n : Int) 63 = ((n % 63 : Nat) : Int) := by rw [Int.tmod_eq_emod_of_nonneg (by omega)]; omega
set_option maxHeartbeats 1000000 in
theorem field_log.calls (a0 : Int) (r : Int) (w : World) (hT : Kd.C (Kd.int .u8) w (some ⟨0, 0, none⟩) 63 pwI) (h : field_log.f a0 = some r) :
    Calls Tryd.prog 52 #[.int .u8 a0] w fun e w' => e = .returned (.int .i64 r) ∧ Drawn0 w w' := by
  have HT := Aside0.mk hT
  clear hT
  unfold field_log.f at h
  split at h
  · rename_i hu
    injection h with h
    have HI := Aside0.mk (h ▸ index_unit hu)
    clear h hu
    go_enter Tryd.func52, Tryd.ntmps52
    go_wp2_with (go_at_call 61; refine (slices_Index_uint8_uint8.calls 64 (some ⟨0, 0, none⟩) 63 pwI a0 r w HT.out (by decide) HI.out).mono ?_; rintro e w' ⟨rfl, hd⟩; obtain ⟨nd, rfl⟩ := hd)
    go_ret
    exact ⟨rfl, ⟨⟨_, rfl⟩⟩⟩
  · cases h
theorem tab_cell {w : World} (hT : Kd.C (Kd.int .u8) w (some ⟨0, 0, none⟩) 63 pwI) (n : Nat) : w.cell? ⟨0, n % 63, none⟩ = some (.int .u8 (ex n : Int)) := by
  obtain ⟨ad, e, hc⟩ := Kd.at_int hT ((n % 63 : Nat) : Int) (by omega) (by omega)
  injection e with e
  subst e
  rw [add_plain, pw_rd, Int.toNat_natCast] at hc
  exact hc
set_option maxHeartbeats 1000000 in
theorem field_mul.calls (a0 : Int) (a1 : Int) (r : Int) (w : World) (hT : Kd.C (Kd.int .u8) w (some ⟨0, 0, none⟩) 63 pwI) (h : field_mul.f a0 a1 = some r) :
    Calls Tryd.prog 53 #[.int .u8 a0, .int .u8 a1] w fun e w' => e = .returned (.int .u8 r) ∧ Drawn0 w w' := by
  have HT := Aside0.mk hT
  clear hT
  unfold field_mul.f at h
  by_cases h0 : a0 = 0
  · subst h0
    rw [if_pos rfl] at h
    injection h with h
    subst h
    go_enter Tryd.func53, Tryd.ntmps53
    go_wp2
    go_ret
    exact ⟨rfl, Drawn0.refl _⟩
  · by_cases h1 : a1 = 0
    · subst h1
      rw [if_neg h0, if_pos rfl] at h
      injection h with h
      subst h
      go_enter Tryd.func53, Tryd.ntmps53
      go_wp2
      go_ret
      exact ⟨rfl, Drawn0.refl _⟩
    · rw [if_neg h0, if_neg h1] at h
      split at h
      · rename_i hu
        injection h with h
        simp only [Bool.and_eq_true] at hu
        obtain ⟨hu0, hu1⟩ := hu
        have hx := unitB_iff.1 hu0
        have hy := unitB_iff.1 hu1
        have b0 := lg_lt (a := a0.toNat) (by omega) (by omega)
        have b1 := lg_lt (a := a1.toNat) (by omega) (by omega)
        have hm := ml_pos (a := a0.toNat) (b := a1.toNat) (by omega) (by omega)
        have l0 : field_log.f a0 = some (lg a0.toNat : Int) := by unfold field_log.f; rw [if_pos hu0]
        have l1 : field_log.f a1 = some (lg a1.toNat : Int) := by unfold field_log.f; rw [if_pos hu1]
        rw [hm] at h
        have e0 : (a0 == 0) = false := by simpa using h0
        have e1 : (a1 == 0) = false := by simpa using h1
        generalize lg a0.toNat = p at *
        generalize lg a1.toNat = q at *
        have HL0 := Aside0.mk l0
        have HL1 := Aside0.mk l1
        have hcell := tab_cell HT.out (p + q)
        rw [h] at hcell
        clear hx hy hm l0 l1 hu0 hu1 h h0 h1
        go_enter Tryd.func53, Tryd.ntmps53
        go_wp2_with (first
          | (go_at_call 52; refine (field_log.calls a0 _ w HT.out HL0.out).mono ?_; rintro e w' ⟨rfl, hd⟩; obtain ⟨nd, rfl⟩ := hd)
          | (go_at_call 52; refine (field_log.calls a1 _ _ (Kd.C_drewN HT.out nd) HL1.out).mono ?_; rintro e w' ⟨rfl, hd⟩; obtain ⟨nd2, rfl⟩ := hd))
        go_ret
        exact ⟨rfl, ⟨⟨_, rfl⟩⟩⟩
      · cases h
set_option maxHeartbeats 1000000 in
theorem field_inv.calls (a0 : Int) (r : Int) (w : World) (hT : Kd.C (Kd.int .u8) w (some ⟨0, 0, none⟩) 63 pwI) (h : field_inv.f a0 = some r) :
    Calls Tryd.prog 54 #[.int .u8 a0] w fun e w' => e = .returned (.int .u8 r) ∧ Drawn0 w w' := by
  have HT := Aside0.mk hT
  clear hT
  unfold field_inv.f at h
  split at h
  · rename_i hu
    injection h with h
    have hx := unitB_iff.1 hu
    have b0 := lg_lt (a := a0.toNat) (by omega) (by omega)
    have l0 : field_log.f a0 = some (lg a0.toNat : Int) := by unfold field_log.f; rw [if_pos hu]
    unfold iv at h
    generalize lg a0.toNat = p at *
    have HL0 := Aside0.mk l0
    have hcell := tab_cell HT.out (63 - p)
    rw [h] at hcell
    have hz : (63 - p) % 63 = (-(p : Int) % 63).toNat := by omega
    rw [hz] at hcell
    clear hz
    clear hx l0 hu h
    go_enter Tryd.func54, Tryd.ntmps54
    go_wp2_with (go_at_call 52; refine (field_log.calls a0 _ w HT.out HL0.out).mono ?_; rintro e w' ⟨rfl, hd⟩; obtain ⟨nd, rfl⟩ := hd)
    go_ret
    exact ⟨rfl, ⟨⟨_, rfl⟩⟩⟩
  · cases h
set_option maxHeartbeats 2000000 in
theorem field_Pow.calls (a0 : Int) (a1 : Int) (r1 : Int) (r2 : Int) (w : World) (hT : Kd.C (Kd.int .u8) w (some ⟨0, 0, none⟩) 63 pwI) (h : field_Pow.f a0 a1 = some (r1, r2)) :
    Calls Tryd.prog 28 #[.int .u8 a0, .int .i64 a1] w fun e w' => e = .returned (.tuple #[.int .u8 r1, .int .i64 r2]) ∧ Drawn0 w w' := by
  have HT := Aside0.mk hT
  clear hT
  unfold field_Pow.f at h
  by_cases h0 : a0 ≥ 64
  · rw [if_pos h0] at h
    injection h with h
    injection h with e1 e2
    subst e1 e2
    go_enter Tryd.func28, Tryd.ntmps28
    go_wp2
    go_ret2
    exact ⟨rfl, Drawn0.refl _⟩
  rw [if_neg h0] at h
  by_cases h1 : a1 = 0
  · subst h1
    rw [if_pos rfl] at h
    injection h with h
    injection h with e1 e2
    subst e1 e2
    go_enter Tryd.func28, Tryd.ntmps28
    go_wp2
    go_ret2
    exact ⟨rfl, Drawn0.refl _⟩
  rw [if_neg h1] at h
  have hb1 : (a1 == 0) = false := by simpa using h1
  by_cases h2 : a0 = 0
  · subst h2
    rw [if_pos rfl] at h
    by_cases h3 : a1 < 0
    · rw [if_pos h3] at h
      injection h with h
      injection h with e1 e2
      subst e1 e2
      clear h1
      go_enter Tryd.func28, Tryd.ntmps28
      go_wp2
      go_ret2
      exact ⟨rfl, Drawn0.refl _⟩
    · rw [if_neg h3] at h
      injection h with h
      injection h with e1 e2
      subst e1 e2
      clear h1
      go_enter Tryd.func28, Tryd.ntmps28
      go_wp2
      go_ret2
      exact ⟨rfl, Drawn0.refl _⟩
  rw [if_neg h2] at h
  have hb2 : (a0 == 0) = false := by simpa using h2
  split at h
  · rename_i hu
    obtain ⟨hu, hlo, hhi⟩ := hu
    injection h with h
    injection h with e1 e2
    have hx := unitB_iff.1 hu
    have b0 := lg_lt (a := a0.toNat) (by omega) (by omega)
    have l0 : field_log.f a0 = some (lg a0.toNat : Int) := by unfold field_log.f; rw [if_pos hu]
    generalize lg a0.toNat = p at *
    have HL0 := Aside0.mk l0
    have hcell := tab_cell HT.out (p * (a1 % 63).toNat)
    rw [e1] at hcell
    clear hx l0 hu e1 h1 h2
    subst e2
    obtain ⟨s, hs⟩ : ∃ s : Nat, (s : Int) = Int.tmod a1 63 + 63 := ⟨(Int.tmod a1 63 + 63).toNat, by have := Int.tmod_lt_of_pos a1 (show (0 : Int) < 63 by decide); have := Int.lt_tmod_of_pos a1 (show (0 : Int) < 63 by decide); omega⟩
    obtain ⟨ee, hee⟩ : ∃ ee, ee = (a1 % 63).toNat := ⟨_, rfl⟩
    have hsb : s < 126 := by have := Int.tmod_lt_of_pos a1 (show (0 : Int) < 63 by decide); omega
    have hsm : s % 63 = ee := by
      rw [hee]
      have h1 : a1 = 63 * Int.tdiv a1 63 + Int.tmod a1 63 := (Int.mul_tdiv_add_tmod a1 63).symm
      omega
    have hel : ee < 63 := by omega
    obtain ⟨m, hm⟩ : ∃ m, m = p * ee := ⟨_, rfl⟩
    have hml : m ≤ 62 * 62 := by rw [hm]; exact Nat.mul_le_mul (by omega) (by omega)
    obtain ⟨q, hq⟩ : ∃ q, q = m % 63 := ⟨_, rfl⟩
    have hql : q < 63 := by omega
    rw [← hee, ← hm, ← hq] at hcell
    have g1 : IntKind.i64.wrap (Int.tmod a1 63 + 63) = (s : Int) := by rw [← hs]; exact IntWalk.i64_in _ (by omega)
    have g2 : Int.tmod (s : Int) 63 = (ee : Int) := by rw [tmod_nat, hsm]
    have g3 : IntKind.i64.wrap ((p : Int) * (ee : Int)) = (m : Int) := by rw [show (p : Int) * (ee : Int) = (m : Int) by rw [hm]; push_cast; rfl]; exact IntWalk.i64_in _ (by omega)
    have g4 : Int.tmod (m : Int) 63 = (q : Int) := by rw [tmod_nat, hq]
    clear hs hee hsb hsm hel hm hml hq
    go_enter Tryd.func28, Tryd.ntmps28
    go_wp2
    go_quiet ((go_at_call 52; exact Calls.quiet_of ((field_log.calls a0 _ _ (Kd.C_drewN HT.out _) HL0.out).mono fun e w' h => ⟨h.1, h.2.out⟩)))
    go_wp2
    go_ret2
    exact ⟨rfl, ⟨⟨_, rfl⟩⟩⟩
  · cases h
end Go.Proofs.YtehgfpfmpkmdmaaDoor.Print

namespace Go.Proofs.YtehgfpfmpkmdmaaDoor.Print
open Go.RowKit Go.Proofs.YtehgfpfmpkmdmaaDoorW.PrintWords Go.Proofs.YtehgfpfmpkmdmaaDoorW.PrintLast Go.Proofs.YtehgfpfmpkmdmaaDoorW.PrintMore
set_option maxHeartbeats 1000000 in
theorem clone59 (A0 : Option Addr) (c0 : Nat) (l0 : List Int) (w : World) (hr0 : Kd.C (Kd.int .u8) w A0 l0.length l0) (hl : l0.length ≤ 140737488355328) :
    Calls Tryd.prog 59 #[.slice A0 l0.length c0] w fun e w' => ∃ v0_ : Value, e = .returned (v0_) ∧ Kd.R (Kd.int .u8) 5 w' w.heap.size (fun _ => True) v0_ l0 ∧ Below w.heap.size w w' := by
  have HR0 := Aside0.mk hr0
  clear hr0
  have hnil := fun (a : Option Addr) (n c n' c' : Nat) (w : World) => Lib.run_eql_slice_nil (P := Tryd.prog) w 22 5 a n c n' c' Tryd.underlying22
  cases A0 with
  | none =>
    obtain rfl : l0 = [] := by
      cases l0 with
      | nil => rfl
      | cons a t => obtain ⟨ad, h, _⟩ := HR0.out.2.2 (by simp); cases h
    go_enter Tryd.func59, Tryd.ntmps59
    go_wp2
    go_ret
    exact ⟨_, rfl, Kd.R_nil _ _ _ _ _, Below.refl _ _⟩
  | some ad =>
    have HB := Aside0.mk (Below.refl w.heap.size w)
    have HL := Aside0.mk hl
    clear hl
    go_enter Tryd.func59, Tryd.ntmps59
    go_wp2_with (first | ((with_reducible refine gate_builtin (b := .append) (xs := #[.tmp 5, .tmp 6]) rfl ?_); at_builtin; refine Kd.R_append_rows (Kd.int .u8) (w0 := w) w.heap.size rfl (.tmp 5) (.tmp 6) 22 5 (.int .u8 0) 1 rfl Tryd.underlying22 info5 rfl (by decide) (by omega) (.slice (some ⟨w.heap.size, 0, none⟩) 0 0) ([] : List Int) l0 _ _ _ (fun _ => True) (fun _ => False) rfl rfl ?aO ?aR (fun _ _ h => h) (fun _ h => h.elim) ?aF ?aB ?aS ?aL ?_; (case aR => exact Kd.C_alloc HR0.out _); (case aB => exact below_alloc HB.out _); (case aF => exact (fun _ _ => trivial)); (case aO => exact ⟨fun _ _ => trivial, [], World.ownsRow_lit w #[] 0 (Nat.le_refl _) (by simp) rfl, Reps.none _ _⟩); (case aS => simp); (case aL => have := HL.out; simp only [List.length_nil]; omega); intro v220 w3 ho hb hg hat; have n0_ := Aside0.mk (hb); have n1_ := Aside0.mk (ho); clear ho hb hg hat))
    go_ret
    exact ⟨_, rfl, by simpa using n1_.out, n0_.out⟩
def slices_Clone_uint8_uint8.f (l0 : List Int) : Option (List Int) := if l0.length ≤ 140737488355328 then some l0 else none
theorem slices_Clone_uint8_uint8.calls (A0 : Option Addr) (c0 : Nat) (l0 : List Int) (r : List Int) (w : World) (hr0 : Kd.C (Kd.int .u8) w A0 l0.length l0) (_hc0 : l0.length ≤ c0) (h : slices_Clone_uint8_uint8.f l0 = some r) :
    Calls Tryd.prog 59 #[.slice A0 l0.length c0] w fun e w' => ∃ v0_ : Value, e = .returned (v0_) ∧ Kd.R (Kd.int .u8) 5 w' w.heap.size (fun _ => True) v0_ r ∧ Below w.heap.size w w' := by
  unfold slices_Clone_uint8_uint8.f at h
  split at h
  · rename_i hl
    injection h with h
    subst h
    exact clone59 A0 c0 l0 w hr0 hl
  · cases h
end Go.Proofs.YtehgfpfmpkmdmaaDoor.Print

namespace Go.Proofs.YtehgfpfmpkmdmaaDoor.Print
open Go.RowKit Go.Proofs.YtehgfpfmpkmdmaaDoorW.PrintWords Go.Proofs.YtehgfpfmpkmdmaaDoorW.PrintLast Go.Proofs.YtehgfpfmpkmdmaaDoorW.PrintMore
attribute [local go_sem] max2_int min2_int max_two min_two max_three min_three max_four min_four   -- for this text's walks alone
set_option linter.unusedVariables false
set_option linter.unusedSimpArgs false
def field_trim.l0 : Nat → List Int → Int → Option (List Int)
  | 0, _, _ => none
  | k + 1, x0, x3 => if x3 > 0 then (if 0 ≤ (wrap64 (x3 - 1)) then (if (wrap64 (x3 - 1)) < (x0.length : Int) then (if (rd x0 (wrap64 (x3 - 1))) = 0 then (field_trim.l0 k x0 (wrap64 (x3 - 1))) else (if 0 ≤ x3 then (if x3 ≤ (x0.length : Int) then ((slices_Clone_uint8_uint8.f (x0.take (x3 : Int).toNat)).bind fun t103 => (some t103)) else (none)) else (none))) else (none)) else (none)) else (if 0 ≤ x3 then (if x3 ≤ (x0.length : Int) then ((slices_Clone_uint8_uint8.f (x0.take (x3 : Int).toNat)).bind fun t107 => (some t107)) else (none)) else (none))
def field_trim.f (k : Nat) (l0 : List Int) : Option (List Int) := field_trim.l0 k l0 (l0.length : Int)
set_option maxHeartbeats 8000000 in
set_option maxRecDepth 100000 in
theorem field_trim.calls (k : Nat) (A0 : Option Addr) (c0 : Nat) (l0 : List Int) (r : List Int) (w : World) (hr0 : Kd.C (Kd.int .u8) w A0 l0.length l0) (hc0 : l0.length ≤ c0) (h : field_trim.f k l0 = some r) :
    Calls Tryd.prog 46 #[.slice A0 l0.length c0] w fun e w' => ∃ v0_ : Value, e = .returned (v0_) ∧ Kd.R (Kd.int .u8) 5 w' w.heap.size (fun _ => True) v0_ r ∧ Below w.heap.size w w' := by
  have HR0 := Aside0.mk hr0
  have HC0 := Aside0.mk hc0
  clear hr0 hc0
  have HB := Aside0.mk (Below.refl w.heap.size w)
  have H : (field_trim.l0 k l0 (l0.length : Int)) = some r := h
  clear h
  have H' := Aside0.mk H
  clear H
  go_enter Tryd.func46, Tryd.ntmps46
  go_wp2
  go_loopg [3] k (fun kq v3 w' => ∃ (x3_1 : Int), v3 = .int .i64 x3_1 ∧ Aside0 (field_trim.l0 kq l0 x3_1 = some r) ∧ Aside0 (kq ≤ k) ∧ Aside0 (Below w.heap.size w w'))
  case atStart => exact ⟨((l0.length : Int)), (by first | rfl | (simp; done) | (simp [*]; done)), H', ⟨Nat.le_refl _⟩, ⟨by repeat (first | (with_reducible first | exact HB.out | apply below_alloc | apply pw_below_drewN | apply below_drew1) | exact HB.out)⟩⟩
  case round =>
    clear H'
    obtain ⟨x3_1, rfl, HA, HK1, HB⟩ := hrel
    cases gk with
    | zero => exact absurd HA.out (by simp [field_trim.l0])
    | succ k1 =>
      have H := HA.out
      clear HA
      simp only [field_trim.l0] at H
      by_cases c2 : x3_1 > 0
      · rw [if_pos c2] at H
        have c2b0 : decide (0 < x3_1) = true := decide_eq_true c2
        clear c2
        obtain ⟨ji3, hji3⟩ : ∃ j_ : Int, (wrap64 (x3_1 - 1)) = j_ := ⟨_, rfl⟩
        replace H : (if 0 ≤ (ji3) then (if (ji3) < (l0.length : Int) then (if (rd l0 (ji3)) = 0 then (field_trim.l0 k1 l0 ji3) else (if 0 ≤ x3_1 then (if x3_1 ≤ (l0.length : Int) then ((slices_Clone_uint8_uint8.f (l0.take (x3_1 : Int).toNat)).bind fun t103 => (some t103)) else (none)) else (none))) else (none)) else (none)) = some r := by first | (rw [hji3] at H; exact H) | (simp only [hji3] at H ⊢; exact H)
        have hji3w : (IntKind.i64.wrap (x3_1 - 1)) = ji3 := (i64_w _).trans hji3
        by_cases c4 : 0 ≤ (ji3)
        · rw [if_pos c4] at H
          have c4b0 : decide (0 ≤ (ji3)) = true := decide_eq_true c4
          clear c4
          by_cases c5 : (ji3) < (l0.length : Int)
          · rw [if_pos c5] at H
            have c5b0 : decide ((ji3) < (l0.length : Int)) = true := decide_eq_true c5
            clear c5
            by_cases c6 : (rd l0 (ji3)) = 0
            · rw [if_pos c6] at H
              have c6b0 : ((rd l0 (ji3)) == 0) = true := beq_iff_eq.mpr c6
              have c6b1 : ((rd l0 (ji3)) != 0) = false := bne_eq_false_iff_eq.mpr c6
              clear c6
              have H' := Aside0.mk H
              clear H
              have p101 : 0 ≤ ((ji3) : Int) := of_decide_eq_true (by first | (with_reducible assumption) | assumption)
              have q101 : (ji3) < (l0.length : Int) := of_decide_eq_true (by first | (with_reducible assumption) | assumption)
              obtain ⟨ad101, e101, hx101_0⟩ := Kd.at_int HR0.out (ji3) p101 q101
              cases e101
              replace hx101_0 := (HB.out.cell (World.block_lt_of_cell? w _ hx101_0)).trans hx101_0
              replace p101 := eq_true p101
              replace q101 := eq_true q101
              go_wp2
              go_roundg k1
              case measure => have := HK1.out; omega
              case rel => exact ⟨(ji3), (by first | rfl | (simp; done) | (simp only [← hji3] <;> (first | rfl | simp)) | (simp [*]; done)), H', ⟨by have := HK1.out; omega⟩, ⟨by repeat (first | (with_reducible first | exact HB.out | apply below_alloc | apply pw_below_drewN | apply below_drew1) | exact HB.out)⟩⟩
            · rw [if_neg c6] at H
              have c6b0 : ((rd l0 (ji3)) == 0) = false := beq_eq_false_iff_ne.mpr c6
              have c6b1 : ((rd l0 (ji3)) != 0) = true := bne_iff_ne.mpr c6
              by_cases c7 : 0 ≤ x3_1
              · rw [if_pos c7] at H
                have c7b0 := eq_true c7
                have c7b1 : decide (0 ≤ x3_1) = true := decide_eq_true c7
                clear c7
                by_cases c8 : x3_1 ≤ (l0.length : Int)
                · rw [if_pos c8] at H
                  have c8b0 := eq_true c8
                  have c8b1 : decide (x3_1 ≤ (l0.length : Int)) = true := decide_eq_true c8
                  clear c8
                  replace H := Option.bind_eq_some_iff.mp H
                  obtain ⟨t103, A90, H⟩ := H
                  replace H : (some t103) = some r := H
                  have A9 := Aside0.mk A90
                  clear A90
                  obtain rfl := Option.some.inj H
                  have p101 : 0 ≤ ((ji3) : Int) := of_decide_eq_true (by first | (with_reducible assumption) | assumption)
                  have q101 : (ji3) < (l0.length : Int) := of_decide_eq_true (by first | (with_reducible assumption) | assumption)
                  obtain ⟨ad101, e101, hx101_0⟩ := Kd.at_int HR0.out (ji3) p101 q101
                  cases e101
                  replace hx101_0 := (HB.out.cell (World.block_lt_of_cell? w _ hx101_0)).trans hx101_0
                  replace p101 := eq_true p101
                  replace q101 := eq_true q101
                  obtain ⟨i010, hi010, _, hsz10, _⟩ := info_parts info5
                  obtain ⟨hcut10, hA10, hC10⟩ := print_take_of (P := Tryd.prog) (Value.int .u8) 0 22 5 .i64 Tryd.underlying22 hi010 hsz10 (some ad101) c0 l0 x3_1 (of_decide_eq_true (by first | (with_reducible assumption) | assumption)) (of_decide_eq_true (by first | (with_reducible assumption) | assumption)) HC0.out
                  have HR102 := Aside0.mk (Kd.C_of_reads (h1 := fun _ => rfl) (hA10 _ (Kd.reads_of_C HR0.out)))
                  have HC102 := Aside0.mk hC10
                  clear hA10 hC10 hi010 hsz10
                  go_wp2_with (first | ((with_reducible refine gate_callee (f := 59) rfl ?_); refine goesL_ (some 21) rfl rfl Tryd.func59 (by kernel_rfl) rfl #[.slice (some ad101) (l0.take (x3_1 : Int).toNat).length c0] rfl (by (try simp only [List.map_toArray, List.map_cons, List.map_nil]); first | done | (rw [show (l0.take (x3_1 : Int).toNat).length = x3_1.toNat from (by rw [List.length_take]; have h_ : (x3_1 : Int) ≤ (l0.length : Int) := of_decide_eq_true (by first | (with_reducible assumption) | assumption); omega)] <;> rfl) | rfl | (simp only [List.length_drop, List.length_take]; rfl)) ?_; (with_reducible refine (slices_Clone_uint8_uint8.calls _ _ (l0.take (x3_1 : Int).toNat) t103 _ ?side1 ?side2 A9.out).mono ?_); (case side1 => repeat (first | exact (Kd.C_below HR102.out HB.out) | (with_reducible refine Kd.C_alloc ?_ _) | (with_reducible refine Kd.C_drewN ?_ _) | (with_reducible refine Kd.C_drew ?_))); (case side2 => exact HC102.out); rintro e w11 ⟨v104, rfl, ho0, hb⟩; refine ⟨_, rfl, ?_⟩; have n0_ := Aside0.mk (Kd.R_lower ho0 (below_size (by repeat (first | (with_reducible first | exact HB.out | apply below_alloc | apply pw_below_drewN | apply below_drew1) | exact HB.out)))); have n1_ := Aside0.mk (below_step (by repeat (first | (with_reducible first | exact HB.out | apply below_alloc | apply pw_below_drewN | apply below_drew1) | exact HB.out)) hb); clear HB; have HO105 := n0_; have HB := n1_; clear n0_ n1_; (try clear hb); (try clear hb2); (try clear hk); (try clear hi); (try clear ho0)))
                  go_ret
                  exact ⟨_, by first | rfl | (simp [errW_none, errW_some] <;> rfl) | (simp only [← hji3]; first | rfl | (simp [errW_none, errW_some] <;> rfl)) | (simp [*, errW_none, errW_some] <;> rfl), by (with_reducible repeat (first | apply Kd.R_alloc | apply Kd.R_drewN | apply Kd.R_drew)); exact HO105.out, by repeat (first | (with_reducible first | exact HB.out | apply below_alloc | apply pw_below_drewN | apply below_drew1) | exact HB.out)⟩
                · rw [if_neg c8] at H
                  exact absurd H (by simp)
              · rw [if_neg c7] at H
                exact absurd H (by simp)
          · rw [if_neg c5] at H
            exact absurd H (by simp)
        · rw [if_neg c4] at H
          exact absurd H (by simp)
      · rw [if_neg c2] at H
        have c2b0 : decide (0 < x3_1) = false := decide_eq_false c2
        clear c2
        by_cases c12 : 0 ≤ x3_1
        · rw [if_pos c12] at H
          have c12b0 := eq_true c12
          have c12b1 : decide (0 ≤ x3_1) = true := decide_eq_true c12
          clear c12
          by_cases c13 : x3_1 ≤ (l0.length : Int)
          · rw [if_pos c13] at H
            have c13b0 := eq_true c13
            have c13b1 : decide (x3_1 ≤ (l0.length : Int)) = true := decide_eq_true c13
            clear c13
            replace H := Option.bind_eq_some_iff.mp H
            obtain ⟨t107, A140, H⟩ := H
            replace H : (some t107) = some r := H
            have A14 := Aside0.mk A140
            clear A140
            obtain rfl := Option.some.inj H
            obtain ⟨i015, hi015, _, hsz15, _⟩ := info_parts info5
            obtain ⟨hcut15, hA15, hC15⟩ := print_take_of (P := Tryd.prog) (Value.int .u8) 0 22 5 .i64 Tryd.underlying22 hi015 hsz15 A0 c0 l0 x3_1 (of_decide_eq_true (by first | (with_reducible assumption) | assumption)) (of_decide_eq_true (by first | (with_reducible assumption) | assumption)) HC0.out
            have HR106 := Aside0.mk (Kd.C_of_reads (h1 := fun _ => rfl) (hA15 _ (Kd.reads_of_C HR0.out)))
            have HC106 := Aside0.mk hC15
            clear hA15 hC15 hi015 hsz15
            go_wp2_with (first | ((with_reducible refine gate_callee (f := 59) rfl ?_); refine goesL_ (some 21) rfl rfl Tryd.func59 (by kernel_rfl) rfl #[.slice A0 (l0.take (x3_1 : Int).toNat).length c0] rfl (by (try simp only [List.map_toArray, List.map_cons, List.map_nil]); first | done | (rw [show (l0.take (x3_1 : Int).toNat).length = x3_1.toNat from (by rw [List.length_take]; have h_ : (x3_1 : Int) ≤ (l0.length : Int) := of_decide_eq_true (by first | (with_reducible assumption) | assumption); omega)] <;> rfl) | rfl | (simp only [List.length_drop, List.length_take]; rfl)) ?_; (with_reducible refine (slices_Clone_uint8_uint8.calls _ _ (l0.take (x3_1 : Int).toNat) t107 _ ?side1 ?side2 A14.out).mono ?_); (case side1 => repeat (first | exact (Kd.C_below HR106.out HB.out) | (with_reducible refine Kd.C_alloc ?_ _) | (with_reducible refine Kd.C_drewN ?_ _) | (with_reducible refine Kd.C_drew ?_))); (case side2 => exact HC106.out); rintro e w16 ⟨v108, rfl, ho0, hb⟩; refine ⟨_, rfl, ?_⟩; have n0_ := Aside0.mk (Kd.R_lower ho0 (below_size (by repeat (first | (with_reducible first | exact HB.out | apply below_alloc | apply pw_below_drewN | apply below_drew1) | exact HB.out)))); have n1_ := Aside0.mk (below_step (by repeat (first | (with_reducible first | exact HB.out | apply below_alloc | apply pw_below_drewN | apply below_drew1) | exact HB.out)) hb); clear HB; have HO109 := n0_; have HB := n1_; clear n0_ n1_; (try clear hb); (try clear hb2); (try clear hk); (try clear hi); (try clear ho0)))
            go_ret
            exact ⟨_, by first | rfl | (simp [errW_none, errW_some] <;> rfl) | (simp [*, errW_none, errW_some] <;> rfl), by (with_reducible repeat (first | apply Kd.R_alloc | apply Kd.R_drewN | apply Kd.R_drew)); exact HO109.out, by repeat (first | (with_reducible first | exact HB.out | apply below_alloc | apply pw_below_drewN | apply below_drew1) | exact HB.out)⟩
          · rw [if_neg c13] at H
            exact absurd H (by simp)
        · rw [if_neg c12] at H
          exact absurd H (by simp)
end Go.Proofs.YtehgfpfmpkmdmaaDoor.Print
