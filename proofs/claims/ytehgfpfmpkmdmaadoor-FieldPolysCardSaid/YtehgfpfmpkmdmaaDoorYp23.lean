-- Gp, Print4 (what this claim uses of them)
import Derived.Test.YtehgfpfmpkmdmaaDoorYp22
import Derived.Deep.DeepMust
import Derived.Outline
namespace Go.Proofs.YtehgfpfmpkmdmaaDoor.Print
open Go.RowKit Go.Proofs.YtehgfpfmpkmdmaaDoorW.PrintWords Go.Proofs.YtehgfpfmpkmdmaaDoorW.PrintLast Go.Proofs.YtehgfpfmpkmdmaaDoorW.PrintMore
open Go.Proofs.YtehgfpfmpkmdmaaDoor.Gf
set_option linter.unusedVariables false
set_option linter.unusedSimpArgs false
def elB (a : Int) : Bool := decide (0 ≤ a) && decide (a < 64)
theorem elB_iff {a : Int} : elB a = true ↔ 0 ≤ a ∧ a < 64 := by simp [elB]
def mI (a b : Int) : Int := (ml a.toNat b.toNat : Int)
theorem mul_mI {a b : Int} (ha : elB a = true) (hb : elB b = true) : field_mul.f a b = some (mI a b) := by
  rw [elB_iff] at ha hb
  unfold field_mul.f mI
  by_cases h0 : a = 0
  · rw [if_pos h0, h0, show (0 : Int).toNat = 0 from rfl, ml_zero_left]; rfl
  · rw [if_neg h0]
    by_cases h1 : b = 0
    · rw [if_pos h1, h1, show (0 : Int).toNat = 0 from rfl, ml_zero_right]; rfl
    · rw [if_neg h1, if_pos (by simp [unitB]; omega)]
def addAt (out : List Int) (n : Int) (v : Int) : List Int := out.set n.toNat (Go.bits .xor .u8 (rd out n) v)
/-- A row of the product: a times q, from place i on. -/
def mulRow (i : Nat) (a : Int) : Nat → List Int → List Int → List Int
  | _, [], out => out
  | j, b :: q, out => mulRow i a (j + 1) q (addAt out ((i + j : Nat) : Int) (mI a b))
def prodRows : Nat → List Int → List Int → List Int → List Int
  | _, [], _, out => out
  | i, a :: p, q, out => prodRows (i + 1) p q (mulRow i a 0 q out)
def prodI (p q : List Int) : List Int := prodRows 0 p q (List.replicate (p.length + q.length - 1) 0)
def field_product.f (l0 l1 : List Int) : Option (List Int) :=
  (field_trim.f (l0.length + 1) l0).bind fun p => (field_trim.f (l1.length + 1) l1).bind fun q =>
    if p.length = 0 then some [] else if q.length = 0 then some [] else if (p.all elB && q.all elB && decide (p.length ≤ 100000) && decide (q.length ≤ 100000)) = true then some (prodI p q) else none
theorem addAt_len (out : List Int) (n v : Int) : (addAt out n v).length = out.length := by simp [addAt]
theorem mulRow_drop (i : Nat) (a : Int) (q out : List Int) (k : Nat) (h : k < q.length) : mulRow i a k (q.drop k) out = mulRow i a (k + 1) (q.drop (k + 1)) (addAt out ((i + k : Nat) : Int) (mI a (rd q (k : Int)))) := by
  rw [List.drop_eq_getElem_cons h, mulRow]
  simp [rd, List.getD_eq_getElem?_getD, List.getElem?_eq_getElem h]
theorem prodRows_drop (p q out : List Int) (k : Nat) (h : k < p.length) : prodRows k (p.drop k) q out = prodRows (k + 1) (p.drop (k + 1)) q (mulRow k (rd p (k : Int)) 0 q out) := by
  rw [List.drop_eq_getElem_cons h, prodRows]
  simp [rd, List.getD_eq_getElem?_getD, List.getElem?_eq_getElem h]
theorem all_rd {p : List Int} (h : p.all elB = true) {k : Nat} (hk : k < p.length) : elB (rd p (k : Int)) = true := by
  rw [rd, Int.toNat_natCast, List.getD_eq_getElem?_getD, List.getElem?_eq_getElem hk]
  exact List.all_eq_true.1 h _ (List.getElem_mem hk)
theorem row_get {α : Type} {d : Kd α} {e : Nat} {w : World} {base : Nat} {ok : Nat → Prop} {v : Value} {xs : List α} (h : d.R e w base ok v xs) : ∃ A c, v = .slice A xs.length c ∧ xs.length ≤ c ∧ d.C w A xs.length xs := by
  obtain ⟨A, c, rfl⟩ := Kd.R_slice h
  exact ⟨A, c, rfl, (Kd.R_reads' h).2.1, (Kd.R_reads' h).2.2⟩
set_option maxHeartbeats 1000000 in
theorem add60 (i : Int) (a : Int) (B g c n : Nat) (xs : List Int) (base : Nat) (ok : Nat → Prop) (w : World) (hn : xs.length = n) (h0 : 0 ≤ i) (hi : i < n) (hB : w.heap[B]? = some (.cells #[.slice (some ⟨g, 0, none⟩) n c] 22 (0, 0)))
    (HO : Kd.R (Kd.int .u8) 5 w base ok (.slice (some ⟨g, 0, none⟩) n c) xs) :
    Calls Tryd.prog 60 #[.int .i64 i, .int .u8 a, .pointer (some ⟨B, 0, none⟩)] w fun e w' => e = .returned (.tuple #[]) ∧ w' = w.setCell ⟨g, i.toNat, none⟩ (.int .u8 (Go.bits .xor .u8 (rd xs i) a)) := by
  subst hn
  have hB0 : w.cell? ⟨B, 0, none⟩ = some (.slice (some ⟨g, 0, none⟩) xs.length c) := (blk_cell hB 0).trans rfl
  obtain ⟨hx, hf⟩ := Kd.R_celln 0 HO i (by omega) (by omega)
  have hx' : w.cell? ⟨g, i.toNat, none⟩ = some (.int .u8 (rd xs i)) := hx
  have e1 : decide (i < (xs.length : Int)) = true := decide_eq_true (by omega)
  have e0 : decide (0 ≤ i) = true := decide_eq_true (by omega)
  have H := Aside0.mk HO
  have HBB := Aside0.mk hB
  clear HO hB hx
  go_enter Tryd.func60, Tryd.ntmps60
  go_wp2
  go_end0
  exact ⟨rfl, rfl⟩
set_option maxHeartbeats 4000000 in
theorem field_product.calls (A0 : Option Addr) (c0 : Nat) (l0 : List Int) (A1 : Option Addr) (c1 : Nat) (l1 : List Int) (r : List Int) (w : World) (hr0 : Kd.C (Kd.int .u8) w A0 l0.length l0) (hc0 : l0.length ≤ c0) (hr1 : Kd.C (Kd.int .u8) w A1 l1.length l1) (hc1 : l1.length ≤ c1) (hT : Kd.C (Kd.int .u8) w (some ⟨0, 0, none⟩) 63 pwI) (h : field_product.f l0 l1 = some r) :
    Calls Tryd.prog 48 #[.slice A0 l0.length c0, .slice A1 l1.length c1] w fun e w' => ∃ v0_ : Value, e = .returned (v0_) ∧ Kd.R (Kd.int .u8) 5 w' w.heap.size (fun _ => True) v0_ r ∧ Below w.heap.size w w' := by
  have HR0 := Aside0.mk hr0
  have HR1 := Aside0.mk hr1
  have HT := Aside0.mk hT
  clear hr0 hr1 hT
  unfold field_product.f at h
  replace h := Option.bind_eq_some_iff.mp h
  obtain ⟨p, hp, h⟩ := h
  replace h := Option.bind_eq_some_iff.mp h
  obtain ⟨q, hq, h⟩ := h
  have A0' := Aside0.mk hp
  have A1' := Aside0.mk hq
  clear hp hq
  by_cases hp0 : p.length = 0
  · rw [if_pos hp0] at h
    injection h with h
    subst h
    have e1 : ((p.length : Int) == 0) = true := by simp [hp0]
    clear hp0
    go_enter Tryd.func48, Tryd.ntmps48
    go_wp2_with (first
      | ((with_reducible refine gate_dst (N := 12) rfl ?_); go_must (refine goesL_ (some 12) rfl rfl Tryd.func46 (by kernel_rfl) rfl #[.slice A0 l0.length c0] rfl (by (try simp only [List.map_toArray, List.map_cons, List.map_nil]); first | done | rfl) ?_; refine (field_trim.calls (l0.length + 1) A0 c0 l0 p w HR0.out hc0 A0'.out).mono ?_)
         rintro e w1 ⟨v1, rfl, ho, hb⟩
         obtain ⟨P, cp, rfl, hcp, hCP⟩ := row_get ho
         refine ⟨_, rfl, ?_⟩
         have HB1 := Aside0.mk hb
         have HP := Aside0.mk hCP
         clear hb ho hCP)
      | ((with_reducible refine gate_dst (N := 14) rfl ?_); go_must (refine goesL_ (some 14) rfl rfl Tryd.func46 (by kernel_rfl) rfl #[.slice A1 l1.length c1] rfl (by (try simp only [List.map_toArray, List.map_cons, List.map_nil]); first | done | rfl) ?_; refine (field_trim.calls (l1.length + 1) A1 c1 l1 q w1 (Kd.C_below HR1.out HB1.out) hc1 A1'.out).mono ?_)
         rintro e w2 ⟨v2, rfl, ho, hb⟩
         obtain ⟨Q, cq, rfl, hcq, hCQ⟩ := row_get ho
         refine ⟨_, rfl, ?_⟩
         have HB2 := Aside0.mk (below_then HB1.out HB1.out.size hb)
         replace HP := Aside0.mk (Kd.C_below HP.out hb)
         have HQ := Aside0.mk hCQ
         clear hb ho hCQ))
    go_ret
    exact ⟨_, rfl, Kd.R_nil _ _ _ _ _, HB2.out⟩
  rw [if_neg hp0] at h
  by_cases hq0 : q.length = 0
  · rw [if_pos hq0] at h
    injection h with h
    subst h
    have e1 : ((p.length : Int) == 0) = false := by simpa using hp0
    have e2 : ((q.length : Int) == 0) = true := by simp [hq0]
    clear hp0 hq0
    go_enter Tryd.func48, Tryd.ntmps48
    go_wp2_with (first
      | ((with_reducible refine gate_dst (N := 12) rfl ?_); go_must (refine goesL_ (some 12) rfl rfl Tryd.func46 (by kernel_rfl) rfl #[.slice A0 l0.length c0] rfl (by (try simp only [List.map_toArray, List.map_cons, List.map_nil]); first | done | rfl) ?_; refine (field_trim.calls (l0.length + 1) A0 c0 l0 p w HR0.out hc0 A0'.out).mono ?_)
         rintro e w1 ⟨v1, rfl, ho, hb⟩
         obtain ⟨P, cp, rfl, hcp, hCP⟩ := row_get ho
         refine ⟨_, rfl, ?_⟩
         have HB1 := Aside0.mk hb
         have HP := Aside0.mk hCP
         clear hb ho hCP)
      | ((with_reducible refine gate_dst (N := 14) rfl ?_); go_must (refine goesL_ (some 14) rfl rfl Tryd.func46 (by kernel_rfl) rfl #[.slice A1 l1.length c1] rfl (by (try simp only [List.map_toArray, List.map_cons, List.map_nil]); first | done | rfl) ?_; refine (field_trim.calls (l1.length + 1) A1 c1 l1 q w1 (Kd.C_below HR1.out HB1.out) hc1 A1'.out).mono ?_)
         rintro e w2 ⟨v2, rfl, ho, hb⟩
         obtain ⟨Q, cq, rfl, hcq, hCQ⟩ := row_get ho
         refine ⟨_, rfl, ?_⟩
         have HB2 := Aside0.mk (below_then HB1.out HB1.out.size hb)
         replace HP := Aside0.mk (Kd.C_below HP.out hb)
         have HQ := Aside0.mk hCQ
         clear hb ho hCQ))
    go_ret
    exact ⟨_, rfl, Kd.R_nil _ _ _ _ _, HB2.out⟩
  rw [if_neg hq0] at h
  split at h
  · rename_i hall
    injection h with h
    simp only [Bool.and_eq_true, decide_eq_true_eq] at hall
    obtain ⟨⟨⟨hpe, hqe⟩, hpl⟩, hql⟩ := hall
    have e1 : ((p.length : Int) == 0) = false := by simpa using hp0
    have e2 : ((q.length : Int) == 0) = false := by simpa using hq0
    have hp1 : 1 ≤ p.length := by omega
    have hq1 : 1 ≤ q.length := by omega
    have HPE := Aside0.mk hpe
    have HQE := Aside0.mk hqe
    have HR := Aside0.mk h
    obtain ⟨n, hn⟩ : ∃ n, n = p.length + q.length - 1 := ⟨_, rfl⟩
    have hn1 : (p.length : Int) + (q.length : Int) - 1 = (n : Int) := by omega
    obtain ⟨z, hz⟩ : ∃ z : List Int, z = List.replicate n 0 := ⟨_, rfl⟩
    have HZ := Aside0.mk hz
    have hzl : z.length = n := by rw [hz, List.length_replicate]
    have HZL := Aside0.mk hzl
    have HRZ := Aside0.mk (show prodRows 0 (p.drop 0) q z = r by rw [← h, prodI, List.drop_zero, hz, hn])
    have hn1le : 1 ≤ n := by omega
    have HN := Aside0.mk hn
    clear h hpe hqe hz hp0 hq0 hzl hn
    go_enter Tryd.func48, Tryd.ntmps48
    go_wp2_with (first
      | ((with_reducible refine gate_dst (N := 12) rfl ?_); go_must (refine goesL_ (some 12) rfl rfl Tryd.func46 (by kernel_rfl) rfl #[.slice A0 l0.length c0] rfl (by (try simp only [List.map_toArray, List.map_cons, List.map_nil]); first | done | rfl) ?_; refine (field_trim.calls (l0.length + 1) A0 c0 l0 p w HR0.out hc0 A0'.out).mono ?_)
         rintro e w1 ⟨v1, rfl, ho, hb⟩
         obtain ⟨P, cp, rfl, hcp, hCP⟩ := row_get ho
         refine ⟨_, rfl, ?_⟩
         have HB1 := Aside0.mk hb
         have HP := Aside0.mk hCP
         clear hb ho hCP)
      | ((with_reducible refine gate_dst (N := 14) rfl ?_); go_must (refine goesL_ (some 14) rfl rfl Tryd.func46 (by kernel_rfl) rfl #[.slice A1 l1.length c1] rfl (by (try simp only [List.map_toArray, List.map_cons, List.map_nil]); first | done | rfl) ?_; refine (field_trim.calls (l1.length + 1) A1 c1 l1 q w1 (Kd.C_below HR1.out HB1.out) hc1 A1'.out).mono ?_)
         rintro e w2 ⟨v2, rfl, ho, hb⟩
         obtain ⟨Q, cq, rfl, hcq, hCQ⟩ := row_get ho
         refine ⟨_, rfl, ?_⟩
         have HB2 := Aside0.mk (below_then HB1.out HB1.out.size hb)
         replace HP := Aside0.mk (Kd.C_below HP.out hb)
         have HQ := Aside0.mk hCQ
         clear hb ho hCQ)
      | ((with_reducible refine gate_dst (N := 29) rfl ?_); go_must (refine Kd.R_make (Kd.int .u8) (w0 := w2) w2.heap.size 5 rfl (N := 29) rfl 22 _ _ rfl (n : Int) rfl rfl Tryd.underlying22 (.int .u8 0) 1 info5 rfl (by decide) (by omega) 0 (ok := fun _ => True) (okp := fun _ => True) rfl (fun _ hk => hk) trivial (by omega) (by omega) (Below.refl _ _) (Nat.le_refl _) ?_)
         intro v29 w3 ho hb hg hat
         rw [Int.toNat_natCast, ← HZ.out] at ho
         obtain ⟨g, cz, ez, hgb, hgl, hgc⟩ := Kd.R_form ho (by rw [HZL.out]; omega)
         subst ez
         have HO3 := Aside0.mk ho
         have HB3 := Aside0.mk hb
         clear hgc hg hat ho hb))
    have HB4 := Aside0.mk (below_alloc (w := w2) HB3.out (.cells #[.slice (some ⟨g, 0, none⟩) z.length cz] 22))
    have HK4 := Aside0.mk (blk_new w3 (.cells #[.slice (some ⟨g, 0, none⟩) z.length cz] 22))
    have HO4 := Aside0.mk (Kd.R_alloc HO3.out (.cells #[.slice (some ⟨g, 0, none⟩) z.length cz] 22))
    generalize hB : w3.heap.size = B at HK4 hgl ⊢
    generalize w3.alloc (.cells #[.slice (some ⟨g, 0, none⟩) z.length cz] 22) = w4 at HB4 HK4 HO4 ⊢
    have hgB : g ≠ B := by omega
    have hBB : w2.heap.size ≤ B := by have := HB3.out.size; omega
    clear hB HO3 HB3
    rw [HZL.out] at HK4 HO4 ⊢
    have HZL' := HZL
    go_loopw [33] (fun vi wr => ∃ (k : Nat) (out : List Int), k ≤ p.length ∧ vi = .int .i64 k ∧ Aside0 (out.length = n ∧ prodRows k (p.drop k) q out = r) ∧ Aside0 (Kd.R (Kd.int .u8) 5 wr w2.heap.size (fun _ => True) (.slice (some ⟨g, 0, none⟩) n cz) out) ∧ Aside0 (wr.heap[B]? = some (.cells #[.slice (some ⟨g, 0, none⟩) n cz] 22 (0, 0))) ∧ Aside0 (Below w2.heap.size w2 wr)) (fun vi _ => p.length - (intOf vi).toNat)
    case atStart => exact ⟨0, z, Nat.zero_le _, rfl, ⟨HZL.out, HRZ.out⟩, HO4, HK4, HB4⟩
    case round =>
      clear HO4 HK4 HB4 w4
      obtain ⟨k, out, hk, rfl, HI, HO, HK, HB⟩ := hrel
      by_cases hlt : k < p.length
      · obtain ⟨ad, rfl, hcell⟩ := Kd.at_int (Kd.C_below HP.out HB.out) (k : Int) (by omega) (by omega)
        rw [Int.toNat_natCast] at hcell
        have HD := Aside0.mk (prodRows_drop p q out k hlt)
        have HE := Aside0.mk (all_rd HPE.out hlt)
        generalize rd p (k : Int) = a at hcell HD HE
        obtain ⟨wo, rfl⟩ : ∃ wo : World, wo = wr := ⟨_, rfl⟩
        go_wp2
        go_loopw [40] (fun vi wr => ∃ (j : Nat) (out2 : List Int), j ≤ q.length ∧ vi = .int .i64 j ∧ Aside0 (out2.length = n ∧ mulRow k a j (q.drop j) out2 = mulRow k a 0 q out) ∧ Aside0 (Kd.R (Kd.int .u8) 5 wr w2.heap.size (fun _ => True) (.slice (some ⟨g, 0, none⟩) n cz) out2) ∧ Aside0 (wr.heap[B]? = some (.cells #[.slice (some ⟨g, 0, none⟩) n cz] 22 (0, 0))) ∧ Aside0 (Below w2.heap.size w2 wr)) (fun vi _ => q.length - (intOf vi).toNat)
        case atStart => exact ⟨0, out, Nat.zero_le _, rfl, ⟨HI.out.1, rfl⟩, HO, HK, HB⟩
        case round =>
          have HIo := HI
          clear HI HO HK HB hcell
          obtain ⟨j, out2, hj, rfl, HI, HO, HK, HB⟩ := hrel
          by_cases hlj : j < q.length
          · obtain ⟨ad2, rfl, hcell⟩ := Kd.at_int (Kd.C_below HQ.out HB.out) (j : Int) (by omega) (by omega)
            rw [Int.toNat_natCast] at hcell
            have HD2 := Aside0.mk (mulRow_drop k a q out2 j hlj)
            have HE2 := Aside0.mk (all_rd HQE.out hlj)
            generalize rd q (j : Int) = b at hcell HD2 HE2
            have HM := Aside0.mk (mul_mI HE.out HE2.out)
            have HW := Aside0.mk (below_then HB2.out HB2.out.size HB.out)
            have hnl := HN.out
            have hkj : 0 ≤ (k : Int) + (j : Int) := by omega
            have hkn : (k : Int) + (j : Int) < (n : Int) := by omega
            clear hnl
            go_wp2_with (first
              | (go_at_call 53; refine (field_mul.calls a b _ _ (Kd.C_below HT.out HW.out) HM.out).mono ?_; rintro e w' ⟨rfl, hd⟩; obtain ⟨nd, rfl⟩ := hd)
              | (go_at_call 60; refine (add60 ((k : Int) + (j : Int)) (mI a b) B g cz n out2 _ _ _ HI.out.1 hkj hkn (blk_drewN HK.out _) (Kd.R_drewN HO.out _)).mono ?_
                 rintro e w5 ⟨rfl, hw⟩
                 have HO5 := Aside0.mk (show Kd.R (Kd.int .u8) 5 w5 w2.heap.size (fun _ => True) (.slice (some ⟨g, 0, none⟩) n cz) (addAt out2 ((k + j : Nat) : Int) (mI a b)) by rw [hw]; exact (Kd.R_putg (Kd.R_drewN HO.out _) ((k : Int) + (j : Int)) _).1)
                 have HK5 := Aside0.mk (show w5.heap[B]? = some (.cells #[.slice (some ⟨g, 0, none⟩) n cz] 22 (0, 0)) by rw [hw]; exact blk_far (blk_drewN HK.out _) hgB.symm _)
                 have HB5 := Aside0.mk (show Below w2.heap.size w2 w5 by rw [hw]; exact below_set (pw_below_drewN HB.out _) hgb)
                 clear hw))
            go_roundw
            case rel => exact ⟨j + 1, addAt out2 ((k + j : Nat) : Int) (mI a b), by omega, by go_num, ⟨by rw [addAt_len]; exact HI.out.1, HD2.out.symm.trans HI.out.2⟩, HO5, HK5, HB5⟩
            case measure => simp [intOf]; omega
          · have hjq : j = q.length := by omega
            have HJ := Aside0.mk (show out2 = mulRow k a 0 q out by rw [← HI.out.2, hjq, List.drop_length]; rfl)
            clear hjq
            go_wp2
            go_roundw
            case rel => exact ⟨k + 1, out2, by omega, by go_num, ⟨HI.out.1, by rw [HJ.out]; exact HD.out.symm.trans HIo.out.2⟩, HO, HK, HB⟩
            case measure => simp [intOf]; omega
      · have hkp : k = p.length := by omega
        have HJ := Aside0.mk (show out = r by rw [← HI.out.2, hkp, List.drop_length]; rfl)
        have hB0 : wr.cell? ⟨B, 0, none⟩ = some (.slice (some ⟨g, 0, none⟩) n cz) := (blk_cell HK.out 0).trans rfl
        clear hkp
        go_wp2
        go_ret
        exact ⟨_, rfl, by rw [← HJ.out]; exact Kd.R_lower HO.out HB2.out.size, below_then HB2.out HB2.out.size HB.out⟩
  · cases h
end Go.Proofs.YtehgfpfmpkmdmaaDoor.Print

namespace Go.Proofs.YtehgfpfmpkmdmaaDoor.Print
open Go.RowKit Go.Proofs.YtehgfpfmpkmdmaaDoorW.PrintWords Go.Proofs.YtehgfpfmpkmdmaaDoorW.PrintLast Go.Proofs.YtehgfpfmpkmdmaaDoorW.PrintMore
attribute [local go_sem] max2_int min2_int max_two min_two max_three min_three max_four min_four   -- for this text's walks alone
set_option linter.unusedVariables false
set_option linter.unusedSimpArgs false
def field_Product.f (l0 : List Int) (l1 : List Int) : Option (List Int × Int) := (field_check.f (([l0, l1] : List (List Int)))).bind fun t114 => (if t114 = 0 then ((field_product.f l0 l1).bind fun t115 => (if (t115.length : Int) > 128 then (some (([] : List Int), 5)) else (some (t115, 0)))) else (some (([] : List Int), t114)))
set_option maxHeartbeats 8000000 in
set_option maxRecDepth 100000 in
theorem field_Product.calls (P0_ : Nat → Prop) (A0 : Option Addr) (c0 : Nat) (l0 : List Int) (P1_ : Nat → Prop) (A1 : Option Addr) (c1 : Nat) (l1 : List Int) (r1 : List Int) (r2 : Int) (w : World) (hs0 : Kd.V (Kd.int .u8) 5 w w.heap.size (fun k_ => P0_ k_) (.slice A0 l0.length c0) l0) (hs1 : Kd.V (Kd.int .u8) 5 w w.heap.size (fun k_ => P1_ k_) (.slice A1 l1.length c1) l1) (hT : Kd.C (Kd.int .u8) w (some ⟨0, 0, none⟩) 63 pwI) (h : field_Product.f l0 l1 = some (r1, r2)) :
    Calls Tryd.prog 16 #[.slice A0 l0.length c0, .slice A1 l1.length c1] w fun e w' => ∃ v0_ : Value, e = .returned (.tuple #[v0_, .int .i64 r2]) ∧ Kd.R (Kd.int .u8) 5 w' w.heap.size (fun k_ => (w.heap.size ≤ k_)) v0_ r1 ∧ Below w.heap.size w w' := by
  have HO0 := Aside0.mk (show Kd.V (Kd.int .u8) 5 w w.heap.size (fun k_ => ((P0_ k_ ∨ P1_ k_) ∨ w.heap.size ≤ k_)) (.slice A0 l0.length c0) l0 from Kd.V_mono hs0 (fun k_ hk => .inl (.inl hk)))
  have HO1 := Aside0.mk (show Kd.V (Kd.int .u8) 5 w w.heap.size (fun k_ => ((P0_ k_ ∨ P1_ k_) ∨ w.heap.size ≤ k_)) (.slice A1 l1.length c1) l1 from Kd.V_mono hs1 (fun k_ hk => .inl (.inr hk)))
  have HRT := Aside0.mk hT
  clear hT
  have HB := Aside0.mk (Below.refl w.heap.size w)
  have H : ((field_check.f (([l0, l1] : List (List Int)))).bind fun t114 => (if t114 = 0 then ((field_product.f l0 l1).bind fun t115 => (if (t115.length : Int) > 128 then (some (([] : List Int), 5)) else (some (t115, 0)))) else (some (([] : List Int), t114)))) = some (r1, r2) := h
  clear h
  obtain ⟨y111, hy111⟩ : ∃ y_ : List (List Int), y_ = (([l0, l1] : List (List Int))) := ⟨_, rfl⟩
  replace H : ((field_check.f y111).bind fun t114 => (if t114 = 0 then ((field_product.f l0 l1).bind fun t115 => (if (t115.length : Int) > 128 then (some (([] : List Int), 5)) else (some (t115, 0)))) else (some (([] : List Int), t114)))) = some (r1, r2) := by first | (rw [hy111]; with_reducible exact H) | (have H2_ := (Option.bind_some _ _).symm.trans H; rw [hy111]; with_reducible exact H2_) | (have H2_ := (Option.bind_some _ _).symm.trans H; with_reducible exact H2_) | with_reducible exact H | (rw [hy111]; exact H) | exact H
  have Ny111 := Aside0.mk hy111
  clear hy111
  replace H := Option.bind_eq_some_iff.mp H
  obtain ⟨t114, A30, H⟩ := H
  replace H : (if t114 = 0 then ((field_product.f l0 l1).bind fun t115 => (if (t115.length : Int) > 128 then (some (([] : List Int), 5)) else (some (t115, 0)))) else (some (([] : List Int), t114))) = some (r1, r2) := H
  have A3 := Aside0.mk A30
  clear A30
  by_cases c4 : t114 = 0
  · rw [if_pos c4] at H
    have c4b0 : (t114 == 0) = true := beq_iff_eq.mpr c4
    have c4b1 : (t114 != 0) = false := bne_eq_false_iff_eq.mpr c4
    clear c4
    replace H := Option.bind_eq_some_iff.mp H
    obtain ⟨t115, A50, H⟩ := H
    replace H : (if (t115.length : Int) > 128 then (some (([] : List Int), 5)) else (some (t115, 0))) = some (r1, r2) := H
    have A5 := Aside0.mk A50
    clear A50
    by_cases c6 : (t115.length : Int) > 128
    · rw [if_pos c6] at H
      have c6b0 : decide (128 < (t115.length : Int)) = true := decide_eq_true c6
      have c6b1 : decide (128 < t115.length) = true := decide_eq_true (by omega)
      clear c6
      simp only [Option.some.injEq, Prod.mk.injEq] at H
      obtain ⟨rfl, rfl⟩ := H
      go_enter Tryd.func16, Tryd.ntmps16
      go_wp2_with (first | ((with_reducible refine gate_dst (N := 10) rfl ?_); refine Kd.N_lit (Kd.slice 5 (Kd.int .u8)) _ 22 ?hg (N' := 10) ?hd (xs := ([l0, l1] : List (List Int))) (inner := [.slice A0 l0.length c0, .slice A1 l1.length c1]) (ok := (fun k_ => ((P0_ k_ ∨ P1_ k_) ∨ w.heap.size ≤ k_))) (okp := (fun k_ => ((P0_ k_ ∨ P1_ k_) ∨ w.heap.size ≤ k_))) ?hr ?hp (fun _ hk => hk) ((show ∀ k_, w.heap.size ≤ k_ → (fun k_ => ((P0_ k_ ∨ P1_ k_) ∨ w.heap.size ≤ k_)) k_ from fun k_ hk => (.inr (Nat.le_trans (below_size (by repeat (first | (with_reducible first | exact HB.out | apply below_alloc | apply pw_below_drewN | apply below_drew1) | exact HB.out))) hk))) _ (Nat.le_refl _)) (Below.refl _ _) (Nat.le_refl _) (by simp) ?_; (case hd => rfl); (case hg => rfl); (case hr => first | (go_simp; done) | (go_simp; rfl)); (case hp => exact (Reps.one (show Kd.FK (Kd.slice 5 (Kd.int .u8)) _ _ l0 [.slice A0 l0.length c0] from (Kd.FK_slice_mk (Kd.V_reads' (Kd.V_mono (ok' := (fun k_ => ((P0_ k_ ∨ P1_ k_) ∨ w.heap.size ≤ k_))) (HO0.out) (fun k_ hk => hk))).2.1 (Kd.V_F (Kd.V_mono (ok' := (fun k_ => ((P0_ k_ ∨ P1_ k_) ∨ w.heap.size ≤ k_))) (HO0.out) (fun k_ hk => hk))))) (Reps.one (show Kd.FK (Kd.slice 5 (Kd.int .u8)) _ _ l1 [.slice A1 l1.length c1] from (Kd.FK_slice_mk (Kd.V_reads' (Kd.V_mono (ok' := (fun k_ => ((P0_ k_ ∨ P1_ k_) ∨ w.heap.size ≤ k_))) (HO1.out) (fun k_ hk => hk))).2.1 (Kd.V_F (Kd.V_mono (ok' := (fun k_ => ((P0_ k_ ∨ P1_ k_) ∨ w.heap.size ≤ k_))) (HO1.out) (fun k_ hk => hk))))) (Reps.none _ _)))); intro v112 w7 ho8 hb hg_ hnew_; clear hg_ hnew_; (first | rw [← Ny111.out] at ho8 | (simp only [Int.reduceToNat] at ho8; rw [← Ny111.out] at ho8)); have n0_ := Aside0.mk (Kd.V_elder' (by (with_reducible repeat (first | apply Kd.V_alloc | apply Kd.V_drewN | apply Kd.V_drew)); exact HO0.out) (Kd.N_base ho8) hb); have n1_ := Aside0.mk (Kd.V_elder' (by (with_reducible repeat (first | apply Kd.V_alloc | apply Kd.V_drewN | apply Kd.V_drew)); exact HO1.out) (Kd.N_base ho8) hb); have n2_ := Aside0.mk (Kd.N_lower ho8 (below_size (by repeat (first | (with_reducible first | exact HB.out | apply below_alloc | apply pw_below_drewN | apply below_drew1) | exact HB.out)))); have n3_ := Aside0.mk (below_step (by repeat (first | (with_reducible first | exact HB.out | apply below_alloc | apply pw_below_drewN | apply below_drew1) | exact HB.out)) hb); clear HO0; clear HO1; clear HB; have HO0 := n0_; have HO1 := n1_; have HO113 := n2_; have HB := n3_; clear n0_ n1_ n2_ n3_; clear hb ho8; obtain ⟨Ao9, co9, eo9⟩ := Kd.N_slice HO113.out; subst eo9) | ((with_reducible refine gate_callee (f := 45) rfl ?_); refine goesL_ (some 11) rfl rfl Tryd.func45 (by kernel_rfl) rfl #[.slice Ao9 y111.length co9] rfl (by (try simp only [List.map_toArray, List.map_cons, List.map_nil]); first | done | rfl | (simp only [List.length_drop, List.length_take]; rfl)) ?_; (with_reducible refine (field_check.calls _ _ y111 t114 _ ?side1 ?side2 A3.out).mono ?_); (case side1 => repeat (first | exact (Kd.N_reads' HO113.out).2.2 | (with_reducible refine Kd.C_alloc ?_ _) | (with_reducible refine Kd.C_drewN ?_ _) | (with_reducible refine Kd.C_drew ?_))); (case side2 => exact (Kd.N_reads' HO113.out).2.1); rintro e w' ⟨rfl, ⟨nd, rfl⟩⟩; refine ⟨_, rfl, ?_⟩) | ((with_reducible refine gate_callee (f := 48) rfl ?_); refine goesL_ (some 17) rfl rfl Tryd.func48 (by kernel_rfl) rfl #[.slice A0 l0.length c0, .slice A1 l1.length c1] rfl (by (try simp only [List.map_toArray, List.map_cons, List.map_nil]); first | done | rfl | (simp only [List.length_drop, List.length_take]; rfl)) ?_; (with_reducible refine (field_product.calls _ _ l0 _ _ l1 t115 _ ?side1 ?side2 ?side3 ?side4 ?side5 A5.out).mono ?_); (case side1 => repeat (first | exact (Kd.V_reads' HO0.out).2.2 | (with_reducible refine Kd.C_alloc ?_ _) | (with_reducible refine Kd.C_drewN ?_ _) | (with_reducible refine Kd.C_drew ?_))); (case side2 => exact (Kd.V_reads' HO0.out).2.1); (case side3 => repeat (first | exact (Kd.V_reads' HO1.out).2.2 | (with_reducible refine Kd.C_alloc ?_ _) | (with_reducible refine Kd.C_drewN ?_ _) | (with_reducible refine Kd.C_drew ?_))); (case side4 => exact (Kd.V_reads' HO1.out).2.1); (case side5 => repeat (first | exact (Kd.C_below HRT.out (by repeat (first | (with_reducible first | exact HB.out | apply below_alloc | apply pw_below_drewN | apply below_drew1) | exact HB.out))) | (with_reducible refine Kd.C_alloc ?_ _) | (with_reducible refine Kd.C_drewN ?_ _) | (with_reducible refine Kd.C_drew ?_))); rintro e w10 ⟨v116, rfl, ho0, hb⟩; refine ⟨_, rfl, ?_⟩; have n0_ := Aside0.mk (Kd.V_elder' (by (with_reducible repeat (first | apply Kd.V_alloc | apply Kd.V_drewN | apply Kd.V_drew)); exact HO0.out) (Kd.R_base ho0) hb); have n1_ := Aside0.mk (Kd.V_elder' (by (with_reducible repeat (first | apply Kd.V_alloc | apply Kd.V_drewN | apply Kd.V_drew)); exact HO1.out) (Kd.R_base ho0) hb); have n2_ := Aside0.mk (Kd.N_elder' (by (with_reducible repeat (first | apply Kd.N_alloc | apply Kd.N_drewN | apply Kd.N_drew)); exact HO113.out) (Kd.R_base ho0) hb); have n3_ := Aside0.mk (Kd.R_lower (Kd.R_newM (M := fun k_ => (w.heap.size ≤ k_)) ho0 (below_size (by repeat (first | (with_reducible first | exact HB.out | apply below_alloc | apply pw_below_drewN | apply below_drew1) | exact HB.out))) (fun k_ h_ => h_)) (below_size (by repeat (first | (with_reducible first | exact HB.out | apply below_alloc | apply pw_below_drewN | apply below_drew1) | exact HB.out)))); have n4_ := Aside0.mk (below_step (by repeat (first | (with_reducible first | exact HB.out | apply below_alloc | apply pw_below_drewN | apply below_drew1) | exact HB.out)) hb); clear HO0; clear HO1; clear HO113; clear HB; have HO0 := n0_; have HO1 := n1_; have HO113 := n2_; have HO117 := n3_; have HB := n4_; clear n0_ n1_ n2_ n3_ n4_; (try clear hb); (try clear hb2); (try clear hk); (try clear hi); (try clear ho0); obtain ⟨Ao11, co11, eo11⟩ := Kd.R_slice HO117.out; subst eo11))
      go_ret2
      exact ⟨_, by first | rfl | (simp [errW_none, errW_some] <;> rfl) | (simp [*, errW_none, errW_some] <;> rfl), by first | exact Kd.R_nil _ _ _ _ _ | exact Kd.N_nil _ _ _ _ _ | exact Kd.V_nil _ _ _ _ _ | exact Kd.Q_nil _ _ _ _ _ | exact Kd.S_nil _ _ _ _ _, by repeat (first | (with_reducible first | exact HB.out | apply below_alloc | apply pw_below_drewN | apply below_drew1) | exact HB.out)⟩
    · rw [if_neg c6] at H
      have c6b0 : decide (128 < (t115.length : Int)) = false := decide_eq_false c6
      have c6b1 : decide (128 < t115.length) = false := decide_eq_false (by omega)
      clear c6
      simp only [Option.some.injEq, Prod.mk.injEq] at H
      obtain ⟨rfl, rfl⟩ := H
      go_enter Tryd.func16, Tryd.ntmps16
      go_wp2_with (first | ((with_reducible refine gate_dst (N := 10) rfl ?_); refine Kd.N_lit (Kd.slice 5 (Kd.int .u8)) _ 22 ?hg (N' := 10) ?hd (xs := ([l0, l1] : List (List Int))) (inner := [.slice A0 l0.length c0, .slice A1 l1.length c1]) (ok := (fun k_ => ((P0_ k_ ∨ P1_ k_) ∨ w.heap.size ≤ k_))) (okp := (fun k_ => ((P0_ k_ ∨ P1_ k_) ∨ w.heap.size ≤ k_))) ?hr ?hp (fun _ hk => hk) ((show ∀ k_, w.heap.size ≤ k_ → (fun k_ => ((P0_ k_ ∨ P1_ k_) ∨ w.heap.size ≤ k_)) k_ from fun k_ hk => (.inr (Nat.le_trans (below_size (by repeat (first | (with_reducible first | exact HB.out | apply below_alloc | apply pw_below_drewN | apply below_drew1) | exact HB.out))) hk))) _ (Nat.le_refl _)) (Below.refl _ _) (Nat.le_refl _) (by simp) ?_; (case hd => rfl); (case hg => rfl); (case hr => first | (go_simp; done) | (go_simp; rfl)); (case hp => exact (Reps.one (show Kd.FK (Kd.slice 5 (Kd.int .u8)) _ _ l0 [.slice A0 l0.length c0] from (Kd.FK_slice_mk (Kd.V_reads' (Kd.V_mono (ok' := (fun k_ => ((P0_ k_ ∨ P1_ k_) ∨ w.heap.size ≤ k_))) (HO0.out) (fun k_ hk => hk))).2.1 (Kd.V_F (Kd.V_mono (ok' := (fun k_ => ((P0_ k_ ∨ P1_ k_) ∨ w.heap.size ≤ k_))) (HO0.out) (fun k_ hk => hk))))) (Reps.one (show Kd.FK (Kd.slice 5 (Kd.int .u8)) _ _ l1 [.slice A1 l1.length c1] from (Kd.FK_slice_mk (Kd.V_reads' (Kd.V_mono (ok' := (fun k_ => ((P0_ k_ ∨ P1_ k_) ∨ w.heap.size ≤ k_))) (HO1.out) (fun k_ hk => hk))).2.1 (Kd.V_F (Kd.V_mono (ok' := (fun k_ => ((P0_ k_ ∨ P1_ k_) ∨ w.heap.size ≤ k_))) (HO1.out) (fun k_ hk => hk))))) (Reps.none _ _)))); intro v112 w12 ho13 hb hg_ hnew_; clear hg_ hnew_; (first | rw [← Ny111.out] at ho13 | (simp only [Int.reduceToNat] at ho13; rw [← Ny111.out] at ho13)); have n0_ := Aside0.mk (Kd.V_elder' (by (with_reducible repeat (first | apply Kd.V_alloc | apply Kd.V_drewN | apply Kd.V_drew)); exact HO0.out) (Kd.N_base ho13) hb); have n1_ := Aside0.mk (Kd.V_elder' (by (with_reducible repeat (first | apply Kd.V_alloc | apply Kd.V_drewN | apply Kd.V_drew)); exact HO1.out) (Kd.N_base ho13) hb); have n2_ := Aside0.mk (Kd.N_lower ho13 (below_size (by repeat (first | (with_reducible first | exact HB.out | apply below_alloc | apply pw_below_drewN | apply below_drew1) | exact HB.out)))); have n3_ := Aside0.mk (below_step (by repeat (first | (with_reducible first | exact HB.out | apply below_alloc | apply pw_below_drewN | apply below_drew1) | exact HB.out)) hb); clear HO0; clear HO1; clear HB; have HO0 := n0_; have HO1 := n1_; have HO113 := n2_; have HB := n3_; clear n0_ n1_ n2_ n3_; clear hb ho13; obtain ⟨Ao14, co14, eo14⟩ := Kd.N_slice HO113.out; subst eo14) | ((with_reducible refine gate_callee (f := 45) rfl ?_); refine goesL_ (some 11) rfl rfl Tryd.func45 (by kernel_rfl) rfl #[.slice Ao14 y111.length co14] rfl (by (try simp only [List.map_toArray, List.map_cons, List.map_nil]); first | done | rfl | (simp only [List.length_drop, List.length_take]; rfl)) ?_; (with_reducible refine (field_check.calls _ _ y111 t114 _ ?side1 ?side2 A3.out).mono ?_); (case side1 => repeat (first | exact (Kd.N_reads' HO113.out).2.2 | (with_reducible refine Kd.C_alloc ?_ _) | (with_reducible refine Kd.C_drewN ?_ _) | (with_reducible refine Kd.C_drew ?_))); (case side2 => exact (Kd.N_reads' HO113.out).2.1); rintro e w' ⟨rfl, ⟨nd, rfl⟩⟩; refine ⟨_, rfl, ?_⟩) | ((with_reducible refine gate_callee (f := 48) rfl ?_); refine goesL_ (some 17) rfl rfl Tryd.func48 (by kernel_rfl) rfl #[.slice A0 l0.length c0, .slice A1 l1.length c1] rfl (by (try simp only [List.map_toArray, List.map_cons, List.map_nil]); first | done | rfl | (simp only [List.length_drop, List.length_take]; rfl)) ?_; (with_reducible refine (field_product.calls _ _ l0 _ _ l1 t115 _ ?side1 ?side2 ?side3 ?side4 ?side5 A5.out).mono ?_); (case side1 => repeat (first | exact (Kd.V_reads' HO0.out).2.2 | (with_reducible refine Kd.C_alloc ?_ _) | (with_reducible refine Kd.C_drewN ?_ _) | (with_reducible refine Kd.C_drew ?_))); (case side2 => exact (Kd.V_reads' HO0.out).2.1); (case side3 => repeat (first | exact (Kd.V_reads' HO1.out).2.2 | (with_reducible refine Kd.C_alloc ?_ _) | (with_reducible refine Kd.C_drewN ?_ _) | (with_reducible refine Kd.C_drew ?_))); (case side4 => exact (Kd.V_reads' HO1.out).2.1); (case side5 => repeat (first | exact (Kd.C_below HRT.out (by repeat (first | (with_reducible first | exact HB.out | apply below_alloc | apply pw_below_drewN | apply below_drew1) | exact HB.out))) | (with_reducible refine Kd.C_alloc ?_ _) | (with_reducible refine Kd.C_drewN ?_ _) | (with_reducible refine Kd.C_drew ?_))); rintro e w15 ⟨v116, rfl, ho0, hb⟩; refine ⟨_, rfl, ?_⟩; have n0_ := Aside0.mk (Kd.V_elder' (by (with_reducible repeat (first | apply Kd.V_alloc | apply Kd.V_drewN | apply Kd.V_drew)); exact HO0.out) (Kd.R_base ho0) hb); have n1_ := Aside0.mk (Kd.V_elder' (by (with_reducible repeat (first | apply Kd.V_alloc | apply Kd.V_drewN | apply Kd.V_drew)); exact HO1.out) (Kd.R_base ho0) hb); have n2_ := Aside0.mk (Kd.N_elder' (by (with_reducible repeat (first | apply Kd.N_alloc | apply Kd.N_drewN | apply Kd.N_drew)); exact HO113.out) (Kd.R_base ho0) hb); have n3_ := Aside0.mk (Kd.R_lower (Kd.R_newM (M := fun k_ => (w.heap.size ≤ k_)) ho0 (below_size (by repeat (first | (with_reducible first | exact HB.out | apply below_alloc | apply pw_below_drewN | apply below_drew1) | exact HB.out))) (fun k_ h_ => h_)) (below_size (by repeat (first | (with_reducible first | exact HB.out | apply below_alloc | apply pw_below_drewN | apply below_drew1) | exact HB.out)))); have n4_ := Aside0.mk (below_step (by repeat (first | (with_reducible first | exact HB.out | apply below_alloc | apply pw_below_drewN | apply below_drew1) | exact HB.out)) hb); clear HO0; clear HO1; clear HO113; clear HB; have HO0 := n0_; have HO1 := n1_; have HO113 := n2_; have HO117 := n3_; have HB := n4_; clear n0_ n1_ n2_ n3_ n4_; (try clear hb); (try clear hb2); (try clear hk); (try clear hi); (try clear ho0); obtain ⟨Ao16, co16, eo16⟩ := Kd.R_slice HO117.out; subst eo16))
      go_ret2
      exact ⟨_, by first | rfl | (simp [errW_none, errW_some] <;> rfl) | (simp [*, errW_none, errW_some] <;> rfl), by (with_reducible repeat (first | apply Kd.R_alloc | apply Kd.R_drewN | apply Kd.R_drew)); exact Kd.R_mono HO117.out (fun _ hk => hk.1), by repeat (first | (with_reducible first | exact HB.out | apply below_alloc | apply pw_below_drewN | apply below_drew1) | exact HB.out)⟩
  · rw [if_neg c4] at H
    have c4b0 : (t114 == 0) = false := beq_eq_false_iff_ne.mpr c4
    have c4b1 : (t114 != 0) = true := bne_iff_ne.mpr c4
    simp only [Option.some.injEq, Prod.mk.injEq] at H
    obtain ⟨rfl, rfl⟩ := H
    go_enter Tryd.func16, Tryd.ntmps16
    go_wp2_with (first | ((with_reducible refine gate_dst (N := 10) rfl ?_); refine Kd.N_lit (Kd.slice 5 (Kd.int .u8)) _ 22 ?hg (N' := 10) ?hd (xs := ([l0, l1] : List (List Int))) (inner := [.slice A0 l0.length c0, .slice A1 l1.length c1]) (ok := (fun k_ => ((P0_ k_ ∨ P1_ k_) ∨ w.heap.size ≤ k_))) (okp := (fun k_ => ((P0_ k_ ∨ P1_ k_) ∨ w.heap.size ≤ k_))) ?hr ?hp (fun _ hk => hk) ((show ∀ k_, w.heap.size ≤ k_ → (fun k_ => ((P0_ k_ ∨ P1_ k_) ∨ w.heap.size ≤ k_)) k_ from fun k_ hk => (.inr (Nat.le_trans (below_size (by repeat (first | (with_reducible first | exact HB.out | apply below_alloc | apply pw_below_drewN | apply below_drew1) | exact HB.out))) hk))) _ (Nat.le_refl _)) (Below.refl _ _) (Nat.le_refl _) (by simp) ?_; (case hd => rfl); (case hg => rfl); (case hr => first | (go_simp; done) | (go_simp; rfl)); (case hp => exact (Reps.one (show Kd.FK (Kd.slice 5 (Kd.int .u8)) _ _ l0 [.slice A0 l0.length c0] from (Kd.FK_slice_mk (Kd.V_reads' (Kd.V_mono (ok' := (fun k_ => ((P0_ k_ ∨ P1_ k_) ∨ w.heap.size ≤ k_))) (HO0.out) (fun k_ hk => hk))).2.1 (Kd.V_F (Kd.V_mono (ok' := (fun k_ => ((P0_ k_ ∨ P1_ k_) ∨ w.heap.size ≤ k_))) (HO0.out) (fun k_ hk => hk))))) (Reps.one (show Kd.FK (Kd.slice 5 (Kd.int .u8)) _ _ l1 [.slice A1 l1.length c1] from (Kd.FK_slice_mk (Kd.V_reads' (Kd.V_mono (ok' := (fun k_ => ((P0_ k_ ∨ P1_ k_) ∨ w.heap.size ≤ k_))) (HO1.out) (fun k_ hk => hk))).2.1 (Kd.V_F (Kd.V_mono (ok' := (fun k_ => ((P0_ k_ ∨ P1_ k_) ∨ w.heap.size ≤ k_))) (HO1.out) (fun k_ hk => hk))))) (Reps.none _ _)))); intro v112 w17 ho18 hb hg_ hnew_; clear hg_ hnew_; (first | rw [← Ny111.out] at ho18 | (simp only [Int.reduceToNat] at ho18; rw [← Ny111.out] at ho18)); have n0_ := Aside0.mk (Kd.V_elder' (by (with_reducible repeat (first | apply Kd.V_alloc | apply Kd.V_drewN | apply Kd.V_drew)); exact HO0.out) (Kd.N_base ho18) hb); have n1_ := Aside0.mk (Kd.V_elder' (by (with_reducible repeat (first | apply Kd.V_alloc | apply Kd.V_drewN | apply Kd.V_drew)); exact HO1.out) (Kd.N_base ho18) hb); have n2_ := Aside0.mk (Kd.N_lower ho18 (below_size (by repeat (first | (with_reducible first | exact HB.out | apply below_alloc | apply pw_below_drewN | apply below_drew1) | exact HB.out)))); have n3_ := Aside0.mk (below_step (by repeat (first | (with_reducible first | exact HB.out | apply below_alloc | apply pw_below_drewN | apply below_drew1) | exact HB.out)) hb); clear HO0; clear HO1; clear HB; have HO0 := n0_; have HO1 := n1_; have HO113 := n2_; have HB := n3_; clear n0_ n1_ n2_ n3_; clear hb ho18; obtain ⟨Ao19, co19, eo19⟩ := Kd.N_slice HO113.out; subst eo19) | ((with_reducible refine gate_callee (f := 45) rfl ?_); refine goesL_ (some 11) rfl rfl Tryd.func45 (by kernel_rfl) rfl #[.slice Ao19 y111.length co19] rfl (by (try simp only [List.map_toArray, List.map_cons, List.map_nil]); first | done | rfl | (simp only [List.length_drop, List.length_take]; rfl)) ?_; (with_reducible refine (field_check.calls _ _ y111 t114 _ ?side1 ?side2 A3.out).mono ?_); (case side1 => repeat (first | exact (Kd.N_reads' HO113.out).2.2 | (with_reducible refine Kd.C_alloc ?_ _) | (with_reducible refine Kd.C_drewN ?_ _) | (with_reducible refine Kd.C_drew ?_))); (case side2 => exact (Kd.N_reads' HO113.out).2.1); rintro e w' ⟨rfl, ⟨nd, rfl⟩⟩; refine ⟨_, rfl, ?_⟩))
    go_ret2
    exact ⟨_, by first | rfl | (simp [errW_none, errW_some] <;> rfl) | (simp [*, errW_none, errW_some] <;> rfl), by first | exact Kd.R_nil _ _ _ _ _ | exact Kd.N_nil _ _ _ _ _ | exact Kd.V_nil _ _ _ _ _ | exact Kd.Q_nil _ _ _ _ _ | exact Kd.S_nil _ _ _ _ _, by repeat (first | (with_reducible first | exact HB.out | apply below_alloc | apply pw_below_drewN | apply below_drew1) | exact HB.out)⟩
end Go.Proofs.YtehgfpfmpkmdmaaDoor.Print
