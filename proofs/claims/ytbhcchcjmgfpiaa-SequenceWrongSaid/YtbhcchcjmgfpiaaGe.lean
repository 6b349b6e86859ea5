/- The contract of the law's feed. By hand, in the printed contracts' form. -/
import Derived.Test.YtbhcchcjmgfpiaaGef
import Derived.Deep.DeepMust
namespace Go.Proofs.Ytbhcchcjmgfpiaa.Print
open Go.RowKit Go.Proofs.YtbhcchcjmgfpiaaW.PrintWords Go.Proofs.YtbhcchcjmgfpiaaW.PrintLast Go.Proofs.YtbhcchcjmgfpiaaW.PrintMore
set_option linter.unusedVariables false
set_option linter.unusedSimpArgs false
theorem feedL_nil (l : List S27) (picks : List Int) (h : l.length = 0) : feedL l picks = [] := by unfold feedL; rw [if_pos h]
theorem feedL_pos (l : List S27) (picks : List Int) (h : l.length ≠ 0) : feedL l picks = (feedAll l (picks.take 2000)).2 := by unfold feedL; rw [if_neg h]

set_option maxHeartbeats 8000000 in
set_option maxRecDepth 100000 in
theorem letterbaglaw28_feed.calls (A0 : Option Addr) (c0 : Nat) (l0 : List (S27)) (A1 : Option Addr) (c1 : Nat) (l1 : List Int) (r : List Int) (w : World) (hr0 : Kd.C k27 w A0 l0.length l0) (_hc0 : l0.length ≤ c0) (hr1 : Kd.C (Kd.int .u8) w A1 l1.length l1) (_hc1 : l1.length ≤ c1) (h : letterbaglaw28_feed.f l0 l1 = some r) :
    Calls Try.prog 22 #[.slice A0 l0.length c0, .slice A1 l1.length c1] w fun e w' => ∃ v0_ : Value, e = .returned (v0_) ∧ Kd.R (Kd.int .i64) 3 w' w.heap.size (fun _ => True) v0_ r ∧ Below w.heap.size w w' := by
  unfold letterbaglaw28_feed.f at h
  by_cases hc : l0.length ≤ 100000 ∧ l1.all isU8 = true
  rotate_left
  · rw [if_neg hc] at h
    cases h
  rw [if_pos hc] at h
  obtain ⟨hlen, hu8⟩ := hc
  have hmax : l1.length ≤ 9223372036854775807 := hr1.2.1
  have HR0 := Aside0.mk hr0
  have HR1 := Aside0.mk hr1
  have HU := Aside0.mk hu8
  have HE := Aside0.mk (Option.some.inj h)
  clear hr0 hr1 hu8 h
  have hu27 := Try.underlying27
  go_enter Try.func22, Try.ntmps22
  go_wp2_with (first
    | ((with_reducible refine gate_dst (N := 11) rfl ?_); go_must (refine Kd.R_make (Kd.int .i64) (w0 := w) w.heap.size 3 rfl (N := 11) rfl 24 _ _ rfl (l0.length : Int) rfl rfl Try.underlying24 (.int .i64 0) 8 info3 rfl (by decide) (by omega) 0 (ok := fun _ => True) (okp := fun _ => True) rfl (fun _ hk => hk) trivial (by omega) (by omega) (Below.refl _ _) (Nat.le_refl _) ?_); intro v1 w1 hv1 hb1 hg1 hat1
       obtain ⟨Am, cm, em⟩ := Kd.R_slice hv1
       simp only [Int.toNat_natCast, List.length_replicate] at hv1 em
       subst em
       have HV1 := Aside0.mk hv1
       have HB1 := Aside0.mk hb1
       clear hv1 hb1 hg1 hat1)
    | go_in)
  go_loopw [5, 7] (fun vo vi wr => ∃ k : Nat, k ≤ l1.length ∧ k ≤ 2000 ∧ vi = .int .i64 k ∧ (l0.length = 0 → k = 0) ∧ Aside0 (Kd.R (Kd.int .i64) 3 wr w.heap.size (fun k_ => some k_ ≠ (Value.slice Am l0.length cm).ownBlock) vo (feedAll l0 (l1.take k)).2) ∧ Aside0 (Kd.R (Kd.int .i64) 3 wr w.heap.size (fun k_ => some k_ ≠ vo.ownBlock) (.slice Am l0.length cm) (feedAll l0 (l1.take k)).1) ∧ Aside0 (Below w.heap.size w wr))
    (fun _ vi _ => l1.length - (intOf vi).toNat)
  case atStart => exact ⟨0, Nat.zero_le _, by omega, rfl, fun _ => rfl, ⟨Kd.R_nil _ _ _ _ _⟩, ⟨Kd.R_mono (Kd.R_apart_nil HV1.out) (fun _ hk => hk.2)⟩, HB1⟩
  case round =>
    clear HV1 HB1
    obtain ⟨k, hk, hk2, rfl, hk0, HO, HL, HB⟩ := hrel
    by_cases hlt : k < l1.length ∧ k < 2000 ∧ 0 < l0.length
    · obtain ⟨hlt1, hlt2, hlp⟩ := hlt
      have hnd := feedAll_snoc l0 l1 k hlt1
      have hu := List.all_eq_true.1 HU.out (rd l1 (k : Int)) (by rw [rd, Int.toNat_natCast, List.getD_eq_getElem?_getD, List.getElem?_eq_getElem hlt1]; exact List.getElem_mem hlt1)
      simp only [isU8, Bool.and_eq_true, decide_eq_true_eq] at hu
      obtain ⟨ad, rfl, hx⟩ := Kd.at_int (Kd.C_below HR1.out HB.out) (k : Int) (by omega) (by omega)
      simp only [Int.toNat_natCast] at hx
      generalize rd l1 (k : Int) = p at hnd hu hx
      have hq0 : 0 ≤ p % (l0.length : Int) := Int.emod_nonneg _ (by omega)
      have hq1 : p % (l0.length : Int) < l0.length := Int.emod_lt_of_pos _ (by omega)
      have ht : p.tmod (l0.length : Int) = p % (l0.length : Int) := Int.tmod_eq_emod_of_nonneg hu.1
      have hw : wrap64 p = p := by unfold wrap64; omega
      have hbx := feed_rd_le l0 (l1.take k) (p % (l0.length : Int))
      rw [List.length_take] at hbx
      unfold feedStep at hnd
      simp only at hnd
      obtain ⟨q, hq⟩ : ∃ y, y = p % (l0.length : Int) := ⟨_, rfl⟩
      rw [← hq] at hnd hq0 hq1 ht hbx
      have HQ := Aside0.mk hq
      clear hq
      have hlens := feedAll_len l0 (l1.take k)
      rw [List.length_take] at hlens
      obtain ⟨lefts, hle⟩ : ∃ y, y = (feedAll l0 (l1.take k)).1 := ⟨_, rfl⟩
      obtain ⟨outs, hoe⟩ : ∃ y, y = (feedAll l0 (l1.take k)).2 := ⟨_, rfl⟩
      rw [← hle] at hnd hbx hlens HL
      rw [← hoe] at hnd hlens HO
      obtain ⟨hll, hol⟩ := hlens
      obtain ⟨g, cap, eqs, hgb, hgl, hgc⟩ := Kd.R_form HL.out (by omega)
      injection eqs with ea en ec
      subst ea
      subst ec
      obtain ⟨hxl, hfl⟩ := Kd.R_celln 0 HL.out q hq0 hq1
      replace hxl : wr.cell? ⟨g, q.toNat, none⟩ = some (.int .i64 (rd lefts q)) := hxl
      obtain ⟨ad0, rfl, hs0, hs1⟩ := at_T27 (Kd.C_below HR0.out HB.out) q hq0 hq1
      generalize rd_T27 l0 q = s at hnd hs0 hs1
      have hb0 := World.block_lt_of_cell? _ _ hs0
      have p0 := eq_true hq0
      have p1 := eq_true hq1
      have HLL := Aside0.mk hll
      have HOL := Aside0.mk hol
      have HLE := Aside0.mk hle
      have HOE := Aside0.mk hoe
      obtain ⟨adx, ex, hsx, _⟩ := at_T27 HR0.out q hq0 hq1
      injection ex with ex
      subst ex
      have hblk := World.block_lt_of_cell? _ _ hsx
      have hneb : (ad0.add (q.toNat * 2)).block ≠ g := by omega
      clear hle hoe hll hol hgc en hsx hblk
      by_cases hv : rd lefts q < s.f1
      · rw [if_pos hv] at hnd
        have HND := Aside0.mk hnd
        have hvd : decide (rd lefts q < s.f1) = true := decide_eq_true hv
        clear hnd
        go_wp2
        go_quiet (fail)
        have hs0' : ((wr.drewN nq).setCell ⟨g, q.toNat, none⟩ (.int .i64 (rd lefts q + 1))).cell? (ad0.add (q.toNat * 2)) = some (.int .i64 s.f0) := (World.cell?_of_block (w := wr.drewN nq) (Below.heap_setCell (wr.drewN nq) ⟨g, q.toNat, none⟩ _ _ hneb)).trans hs0
        have HO5 := Aside0.mk (Kd.R_far (p := ⟨g, q.toNat, none⟩) (Kd.R_drewN HO.out nq) (fun k hk he => hk (by rw [he]; rfl)) (.int .i64 (rd lefts q + 1)))
        have HL5 := Aside0.mk (Kd.R_mono (Kd.R_putn (Kd.R_drewN HL.out nq) q (rd lefts q + 1)) (fun k hk => (⟨trivial, hk⟩ : True ∧ some k ≠ u5.ownBlock)))
        have HB5 := Aside0.mk (below_set (j := q.toNat) (v := .int .i64 (rd lefts q + 1)) (pw_below_drewN HB.out nq) hgb)
        have hsz5 : ((wr.drewN nq).setCell ⟨g, q.toNat, none⟩ (.int .i64 (rd lefts q + 1))).heap.size = wr.heap.size := by simp [World.setCell]
        have hfr5 : ∀ k_, ((wr.drewN nq).setCell ⟨g, q.toNat, none⟩ (.int .i64 (rd lefts q + 1))).heap.size ≤ k_ → some k_ ≠ (Value.slice (some ⟨g, 0, none⟩) l0.length cm).ownBlock := by
          intro k_ hk he
          rw [hsz5] at hk
          have he : some k_ = some g := he
          injection he with he
          omega
        have HF5 := Aside0.mk hfr5
        have HZ5 := Aside0.mk hsz5
        clear hsz5 hfr5
        go_wp2_with (first
          | ((with_reducible refine gate_builtin (b := .append) (xs := #[.tmp 51, .tmp 57]) rfl ?_); at_builtin; go_must (refine Kd.R_append (Kd.int .i64) (w0 := w) w.heap.size rfl (.tmp 51) (.tmp 57) 24 3 (.int .i64 0) 8 rfl Try.underlying24 info3 rfl (by decide) (by omega) u5 outs s.f0 [.int .i64 s.f0] (fun k_ => some k_ ≠ (Value.slice (some ⟨g, 0, none⟩) l0.length cm).ownBlock) (fun _ => False) rfl (by rw [HZ5.out]; rfl) rfl (fun _ hk => hk.elim) HF5.out HO5.out HB5.out HB5.out.size ?aL ?_); (case aL => have := HOL.out; omega); intro v6 w6 ho hb hg hat
             have HO6 := Aside0.mk ho
             have HL6 := Aside0.mk (Kd.R_mono (Kd.R_after HL5.out hg hat) (fun k_ hk => hk.2))
             have HB6 := Aside0.mk hb
             clear ho hb hg hat)
          | go_in)
        go_roundw
        case rel =>
          refine ⟨k + 1, by omega, by omega, by go_num, fun h => by omega, ⟨?_⟩, ⟨?_⟩, HB6⟩
          · rw [HND.out]
            exact HO6.out
          · rw [HND.out]
            exact HL6.out
        case measure => simp [intOf]; omega
      · rw [if_neg hv] at hnd
        have HND := Aside0.mk hnd
        have hvd : decide (rd lefts q < s.f1) = false := decide_eq_false hv
        clear hnd
        go_wp2
        go_quiet (fail)
        go_wp2
        go_roundw
        case rel =>
          refine ⟨k + 1, by omega, by omega, by go_num, fun h => by omega, ⟨?_⟩, ⟨?_⟩, ⟨by repeat (first | (with_reducible first | exact HB.out | apply below_alloc | apply pw_below_drewN | apply below_drew1) | exact HB.out)⟩⟩
          · rw [HND.out, ← HOE.out]
            (with_reducible repeat (first | apply Kd.R_alloc | apply Kd.R_drewN | apply Kd.R_drew)); exact HO.out
          · rw [HND.out, ← HLE.out]
            (with_reducible repeat (first | apply Kd.R_alloc | apply Kd.R_drewN | apply Kd.R_drew)); exact HL.out
        case measure => simp [intOf]; omega
    · have hend : feedL l0 l1 = (feedAll l0 (l1.take k)).2 := by
        by_cases h0 : l0.length = 0
        · rw [feedL_nil l0 l1 h0, hk0 h0]
          rfl
        · rw [feedL_pos l0 l1 h0]
          have e : l1.take 2000 = l1.take k := by
            rw [List.take_eq_take_iff]
            omega
          rw [e]
      have HN := Aside0.mk (HE.out.symm.trans hend)
      clear hend
      have h1 : decide ((k : Int) < (l1.length : Int)) = decide (k < l1.length) := by simp
      by_cases ha : k < l1.length
      · by_cases hb : k < 2000
        · have hc0 : l0.length = 0 := by omega
          have HZ := Aside0.mk hc0
          have hz : (l0.length : Int) = 0 := by omega
          go_wp2
          go_ret
          exact ⟨_, rfl, by rw [HN.out]; exact Kd.R_mono HO.out (fun _ _ => trivial), HB.out⟩
        · obtain rfl : k = 2000 := by omega
          go_wp2
          go_ret
          exact ⟨_, rfl, by rw [HN.out]; exact Kd.R_mono HO.out (fun _ _ => trivial), HB.out⟩
      · go_wp2
        go_ret
        exact ⟨_, rfl, by rw [HN.out]; exact Kd.R_mono HO.out (fun _ _ => trivial), HB.out⟩
end Go.Proofs.Ytbhcchcjmgfpiaa.Print
