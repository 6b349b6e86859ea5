/- FieldPowers: the law answers true for every input (its walk, by hand, and its plain law). -/
import Derived.Test.YtehgfpfmpkmdmaaDoorGt
import Derived.Test.YtehgfpfmpkmdmaaDoorGw
import Derived.Test.YtehgfpfmpkmdmaaDoorFr
import Derived.Test.YtehgfpfmpkmdmaaDoorFo
namespace Go.Proofs.YtehgfpfmpkmdmaaDoor.Print
open Go.RowKit Go.Proofs.YtehgfpfmpkmdmaaDoorW.PrintWords Go.Proofs.YtehgfpfmpkmdmaaDoorW.PrintLast Go.Proofs.YtehgfpfmpkmdmaaDoorW.PrintMore
open Go.Proofs.YtehgfpfmpkmdmaaDoor.Gf
set_option linter.unusedVariables false
set_option linter.unusedSimpArgs false
/-- A power, the exponent negative too. -/
def epw (a : F) (n : Int) : F := ⟨ex (lg a.v * (n % 63).toNat), ex_lt _⟩
theorem epw_f {a : F} (h : a ≠ 0) (n : Int) (hlo : -9223372036854775808 ≤ n) (hhi : n ≤ 9223372036854775807) : field_Pow.f (ofF a) n = some (ofF (epw a n), 0) := by
  by_cases hn : n = 0
  · subst hn
    rw [Pow_zero]
    simp [epw, ofF]
    decide
  · rw [Pow_f h n hn hlo hhi]
    rfl
theorem ex_congr {m n : Nat} (h : m % 63 = n % 63) : ex m = ex n := by rw [← ex_mod m, h, ex_mod]
theorem epw_add (a : F) (m n : Int) : epw a m * epw a n = epw a (m + n) := F.ext (by
  simp only [mul_v, epw]
  rw [ex_addF, ← Nat.mul_add]
  refine ex_congr ?_
  have : ((m % 63).toNat + (n % 63).toNat) % 63 = ((m + n) % 63).toNat % 63 := by omega
  rw [Nat.mul_mod, this, ← Nat.mul_mod])
theorem epw_63 (a : F) : epw a 63 = 1 := F.ext (by simp [epw, one_v]; decide)

set_option maxHeartbeats 4000000 in
theorem powers_calls (a m n : Int) (w : World) (w0 : (Lit.int .u8 a).wf = true) (w1 : (Lit.int .i16 m).wf = true) (w2 : (Lit.int .i16 n).wf = true) (hT : Kd.C (Kd.int .u8) w (some ⟨0, 0, none⟩) 63 pwI) :
    Calls Tryd.prog 5 #[.int .u8 a, .int .i16 m, .int .i16 n] w fun e w' => e = .returned (.bool true) ∧ Below w.heap.size w w' := by
  have b0 : 0 ≤ a ∧ a ≤ 255 := by
    simp [Lit.wf, IntKind.min, IntKind.max, IntKind.signed, IntKind.bits] at w0
    omega
  have b1 : -32768 ≤ m ∧ m ≤ 32767 := by
    simp [Lit.wf, IntKind.min, IntKind.max, IntKind.signed, IntKind.bits] at w1
    omega
  have b2 : -32768 ≤ n ∧ n ≤ 32767 := by
    simp [Lit.wf, IntKind.min, IntKind.max, IntKind.signed, IntKind.bits] at w2
    omega
  obtain ⟨b0l, b0h⟩ := b0
  obtain ⟨b1l, b1h⟩ := b1
  obtain ⟨b2l, b2h⟩ := b2
  obtain ⟨ux, hux⟩ : ∃ ux, ux = 1 + a % 63 := ⟨_, rfl⟩
  obtain ⟨x, hx⟩ : ∃ x : F, ofF x = ux := ⟨toF ux, ofF_toF (by rw [elB_iff]; omega)⟩
  have hx0 : x ≠ 0 := fun e => by
    rw [e, ofF_zero] at hx
    omega
  have hp := epw_f hx0 m (by omega) (by omega)
  have hq := epw_f hx0 n (by omega) (by omega)
  have hr := epw_f hx0 (m + n) (by omega) (by omega)
  have ho := epw_f hx0 63 (by omega) (by omega)
  have hm := Mul_f (epw x m) (epw x n)
  rw [epw_63, ofF_one] at ho
  rw [epw_add] at hm
  rw [hx] at hp hq hr ho
  generalize ofF (epw x m) = p at hp hm
  generalize ofF (epw x n) = q at hq hm
  generalize ofF (epw x (m + n)) = r at hr hm
  have HT := Aside0.mk hT
  have HP := Aside0.mk hp
  have HQ := Aside0.mk hq
  have HR := Aside0.mk hr
  have HO := Aside0.mk ho
  have HM := Aside0.mk hm
  have hux' : 1 + a % 63 = ux := hux.symm
  clear hp hq hr ho hm hx hx0 hT hux w0 w1 w2
  go_enter Tryd.func5, Tryd.ntmps5
  go_upto_region 6 with (first
      | ((with_reducible refine gate_dst (N := 24) rfl ?_); go_must (refine goesL_ (some 24) rfl rfl Tryd.func28 (by kernel_rfl) rfl #[.int .u8 ux, .int .i64 m] rfl (by (try simp only [List.map_toArray, List.map_cons, List.map_nil]); first | done | rfl) ?_; refine (field_Pow.calls ux m p 0 w HT.out HP.out).mono ?_)
         rintro e wa ⟨rfl, hd⟩
         have HB1 := Aside0.mk (hd.below)
         refine ⟨_, rfl, ?_⟩
         clear hd)
      | ((with_reducible refine gate_dst (N := 31) rfl ?_); go_must (refine goesL_ (some 31) rfl rfl Tryd.func28 (by kernel_rfl) rfl #[.int .u8 ux, .int .i64 n] rfl (by (try simp only [List.map_toArray, List.map_cons, List.map_nil]); first | done | rfl) ?_; refine (field_Pow.calls ux n q 0 wa (Kd.C_below HT.out HB1.out) HQ.out).mono ?_)
         rintro e wb ⟨rfl, hd⟩
         have HB2 := Aside0.mk (below_then HB1.out HB1.out.size hd.below)
         refine ⟨_, rfl, ?_⟩
         clear hd)
      | ((with_reducible refine gate_dst (N := 41) rfl ?_); go_must (refine goesL_ (some 41) rfl rfl Tryd.func28 (by kernel_rfl) rfl #[.int .u8 ux, .int .i64 (m + n)] rfl (by (try simp only [List.map_toArray, List.map_cons, List.map_nil]); first | done | rfl) ?_; refine (field_Pow.calls ux (m + n) r 0 wb (Kd.C_below HT.out HB2.out) HR.out).mono ?_)
         rintro e wc ⟨rfl, hd⟩
         have HB3 := Aside0.mk (below_then HB2.out HB2.out.size hd.below)
         refine ⟨_, rfl, ?_⟩
         clear hd)
      | ((with_reducible refine gate_dst (N := 46) rfl ?_); go_must (refine goesL_ (some 46) rfl rfl Tryd.func28 (by kernel_rfl) rfl #[.int .u8 ux, .int .i64 63] rfl (by (try simp only [List.map_toArray, List.map_cons, List.map_nil]); first | done | rfl) ?_; refine (field_Pow.calls ux 63 1 0 wc (Kd.C_below HT.out HB3.out) HO.out).mono ?_)
         rintro e wd ⟨rfl, hd⟩
         have HB4 := Aside0.mk (below_then HB3.out HB3.out.size hd.below)
         refine ⟨_, rfl, ?_⟩
         clear hd)
      | fail)
  have HT4 := Aside0.mk (Kd.C_below HT.out HB4.out)
  go_wp2_with (first
      | ((with_reducible refine gate_dst (N := 70) rfl ?_); go_must ((try (refine gate_guard (by rfl) ?_; dsimp only)); refine goesL_ (some 70) rfl rfl Tryd.func29 (by kernel_rfl) rfl #[.int .u8 p, .int .u8 q, .pointer (some ⟨wd.heap.size, 0, none⟩)] rfl (by (try simp only [List.map_toArray, List.map_cons, List.map_nil]); first | done | rfl) ?_; refine (times29 p q r wd.heap.size wd _ HT4.out (below_alloc (Below.refl _ wd) (.cells #[.bool true] 4)) (Nat.le_refl _) (blk_new wd (.cells #[.bool true] 4)) HM.out).mono ?_)
         rintro e w3 ⟨rfl, hc, hb⟩
         refine ⟨_, rfl, ?_⟩
         have HB5 := Aside0.mk hb
         have c3 : w3.cell? ⟨wd.heap.size, 0, none⟩ = some (.bool true) := (blk_cell hc 0).trans rfl
         clear hb hc)
      | ((with_reducible refine gate_dst (N := 78) rfl ?_); go_must ((try (refine gate_guard (by rfl) ?_; dsimp only)); refine goesL_ (some 78) rfl rfl Tryd.func11 (by kernel_rfl) rfl #[] rfl (by (try simp only [List.map_toArray, List.map_cons, List.map_nil]); first | done | rfl) ?_; refine (letterbaglaw18_awake.calls true w3 (Kd.C_below HT4.out HB5.out) rfl).mono ?_)
         rintro e w4 ⟨rfl, hb⟩
         refine ⟨_, rfl, ?_⟩
         have HB6 := Aside0.mk (below_then HB5.out HB5.out.size hb)
         clear hb)
      | fail)
  go_ret
  exact ⟨rfl, below_then HB4.out HB4.out.size HB6.out⟩
theorem powers_walk (a m n : Int) (w : World) (w0 : (Lit.int .u8 a).wf = true) (w1 : (Lit.int .i16 m).wf = true) (w2 : (Lit.int .i16 n).wf = true) (hT : Kd.C (Kd.int .u8) w (some ⟨0, 0, none⟩) 63 pwI) :
    Calls Tryd.prog 5 #[.int .u8 a, .int .i16 m, .int .i16 n] w fun e w' => e = .returned (.bool true) ∧ Below w.heap.size w w' := powers_calls a m n w w0 w1 w2 hT
end Go.Proofs.YtehgfpfmpkmdmaaDoor.Print
