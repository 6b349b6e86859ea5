/- FieldRoots: the law answers true for every input (its walk, by hand). -/
import Derived.Test.YtehgfpfmpkmdmaaDoorFq
import Derived.Test.YtehgfpfmpkmdmaaDoorGw
import Derived.Deep.DeepMust
namespace Go.Proofs.YtehgfpfmpkmdmaaDoor.Print
open Go.RowKit Go.Proofs.YtehgfpfmpkmdmaaDoorW.PrintWords Go.Proofs.YtehgfpfmpkmdmaaDoorW.PrintLast Go.Proofs.YtehgfpfmpkmdmaaDoorW.PrintMore
open Go.Proofs.YtehgfpfmpkmdmaaDoor.Gf
set_option linter.unusedVariables false
set_option linter.unusedSimpArgs false

theorem C_row {A : Option Addr} {n : Nat} {w : World} {p : Poly} (h : Kd.C (Kd.int .u8) w A (IL p).length (IL p)) (k : Nat) (hk : k < p.length) : ∃ ad, A = some ad ∧ w.cell? (ad.add k) = some (.int .u8 (ofF (cf p k))) := by
  obtain ⟨ad, e, hc⟩ := Kd.at_int h (k : Int) (by omega) (by rw [IL_len]; omega)
  exact ⟨ad, e, by rw [rd_ILn, Int.toNat_natCast] at hc; exact hc⟩
/-- The array that marks some elements. -/
def markV (l : List F) (x : Nat) : Value := .int .i64 (if elm x ∈ l then 1 else 0)
def marks (l : List F) : Array Value := ((List.range 64).map (markV l)).toArray
theorem marks_size (l : List F) : (marks l).size = 64 := by simp [marks]
theorem marks_at (l : List F) (x : Nat) (h : x < 64) : (marks l)[x]? = some (markV l x) := by simp [marks, h]
theorem marks_nil : marks [] = #[.int .i64 0, .int .i64 0, .int .i64 0, .int .i64 0, .int .i64 0, .int .i64 0, .int .i64 0, .int .i64 0, .int .i64 0, .int .i64 0, .int .i64 0, .int .i64 0, .int .i64 0, .int .i64 0, .int .i64 0, .int .i64 0, .int .i64 0, .int .i64 0, .int .i64 0, .int .i64 0, .int .i64 0, .int .i64 0, .int .i64 0, .int .i64 0, .int .i64 0, .int .i64 0, .int .i64 0, .int .i64 0, .int .i64 0, .int .i64 0, .int .i64 0, .int .i64 0, .int .i64 0, .int .i64 0, .int .i64 0, .int .i64 0, .int .i64 0, .int .i64 0, .int .i64 0, .int .i64 0, .int .i64 0, .int .i64 0, .int .i64 0, .int .i64 0, .int .i64 0, .int .i64 0, .int .i64 0, .int .i64 0, .int .i64 0, .int .i64 0, .int .i64 0, .int .i64 0, .int .i64 0, .int .i64 0, .int .i64 0, .int .i64 0, .int .i64 0, .int .i64 0, .int .i64 0, .int .i64 0, .int .i64 0, .int .i64 0, .int .i64 0, .int .i64 0] := by kernel_rfl
theorem marks_cons (l : List F) (r : F) : (marks l).setIfInBounds r.v (.int .i64 1) = marks (r :: l) := by
  refine Array.ext_getElem? fun i => ?_
  rw [Array.getElem?_setIfInBounds, marks_size]
  by_cases h : r.v = i
  · subst h
    rw [if_pos rfl, if_pos r.h, marks_at _ _ r.h]
    simp [markV, elm_v]
  · rw [if_neg h]
    rcases Nat.lt_or_ge i 64 with hi | hi
    · rw [marks_at _ _ hi, marks_at _ _ hi]
      have hne : elm i ≠ r := fun e => h (by rw [← e]; simp [elm, Nat.mod_eq_of_lt hi])
      simp [markV, hne]
    · rw [Array.getElem?_eq_none (by rw [marks_size]; exact hi), Array.getElem?_eq_none (by rw [marks_size]; exact hi)]
theorem index_marks (l : List F) (x : Nat) (h : x < 64) (w : World) : (Instr.index 61 (.agg (marks l)) (.int .i64 (x : Int))).run Tryd.prog w = .ok (markV l x) w := by
  unfold Instr.index
  have h1 := marks_at l x h
  simp [run_underlying Tryd.underlying61, asIntOf, go_sem]
  rw [if_pos h, h1]
  rfl

theorem row_V {d : Kd Int} {e : Nat} {w : World} {base : Nat} {ok : Nat → Prop} {v : Value} {xs : List Int} (h : d.R e w base ok v xs) : ∃ A c, v = .slice A xs.length c ∧ ∀ b, Kd.V d e w b (fun _ => True) (.slice A xs.length c) xs := by
  obtain ⟨A, c, rfl⟩ := Kd.R_slice h
  exact ⟨A, c, rfl, fun b => Kd.V_mono (Kd.R_V h) (fun _ _ => trivial)⟩
theorem V_to {d : Kd Int} {e : Nat} {w w' : World} {v : Value} {xs : List Int} (h : ∀ b, Kd.V d e w b (fun _ => True) v xs) (hb : Below w.heap.size w w') : ∀ b, Kd.V d e w' b (fun _ => True) v xs := fun b => Kd.V_below (h b) hb
theorem V_C {d : Kd Int} {e : Nat} {w : World} {A : Option Addr} {c : Nat} {xs : List Int} (h : ∀ b, Kd.V d e w b (fun _ => True) (.slice A xs.length c) xs) : d.C w A xs.length xs := (Kd.V_reads' (h 0)).2.2

set_option maxHeartbeats 8000000 in
set_option maxRecDepth 100000 in
theorem roots_calls (A0 : Option Addr) (c0 : Nat) (l0 : List Int) (A1 : Option Addr) (c1 : Nat) (l1 : List Int) (w : World) (hr0 : Kd.C (Kd.int .u8) w A0 l0.length l0) (hc0 : l0.length ≤ c0) (hr1 : Kd.C (Kd.int .u8) w A1 l1.length l1) (hc1 : l1.length ≤ c1)
    (n0 : ∀ x ∈ l0, 0 ≤ x) (n1 : ∀ x ∈ l1, 0 ≤ x) (hT : Kd.C (Kd.int .u8) w (some ⟨0, 0, none⟩) 63 pwI) :
    Calls Tryd.prog 9 #[.slice A0 l0.length c0, .slice A1 l1.length c1] w fun e w' => e = .returned (.bool true) ∧ Below w.heap.size w w' := by
  obtain ⟨p, hp, hpl⟩ := elements_f l0 n0 40 (by omega) 1000 (by omega)
  obtain ⟨ms, hm, hml⟩ := elements_f l1 n1 40 (by omega) 1000 (by omega)
  have HR0 := Aside0.mk hr0
  have HR1 := Aside0.mk hr1
  have HT := Aside0.mk hT
  have HP := Aside0.mk hp
  have HM := Aside0.mk hm
  have HD := Aside0.mk (Degree_f p (by omega) 1000 (by omega))
  have hdl := dg_len p
  obtain ⟨D, hD⟩ : ∃ D, D = dg p := ⟨_, rfl⟩
  rw [← hD] at HD hdl
  have HDG := Aside0.mk hD
  have HPL := Aside0.mk hpl
  have HML := Aside0.mk hml
  have hmi : (IL ms).length ≤ 40 := by rw [IL_len]; exact hml
  have hpi : (IL p).length ≤ 40 := by rw [IL_len]; exact hpl
  clear hr0 hr1 hT hp hm n0 n1 hD hpl hml
  go_enter Tryd.func9, Tryd.ntmps9
  go_upto_region 5 with (first
      | ((with_reducible refine gate_dst (N := 29) rfl ?_); go_must (refine goesL_ (some 29) rfl rfl Tryd.func27 (by kernel_rfl) rfl #[.slice A0 l0.length c0, .int .i64 40] rfl (by (try simp only [List.map_toArray, List.map_cons, List.map_nil]); first | done | rfl) ?_; refine (letterbaglaw18_elements.calls 1000 A0 c0 l0 40 (IL p) w HR0.out hc0 HP.out).mono ?_)
         rintro e w1 ⟨v1, rfl, ho, hb⟩
         obtain ⟨P, cp, rfl, hV⟩ := row_V ho
         refine ⟨_, rfl, ?_⟩
         have HB1 := Aside0.mk hb
         have HVP := Aside0.mk hV
         clear hb ho hV)
      | ((with_reducible refine gate_dst (N := 32) rfl ?_); go_must (refine goesL_ (some 32) rfl rfl Tryd.func14 (by kernel_rfl) rfl #[.slice P (IL p).length cp] rfl (by (try simp only [List.map_toArray, List.map_cons, List.map_nil]); first | done | rfl) ?_; refine (field_Degree.calls 1000 (fun _ => True) P cp (IL p) ((D : Int) - 1) 0 w1 (HVP.out _) HD.out).mono ?_)
         rintro e w2 ⟨rfl, hb⟩
         refine ⟨_, rfl, ?_⟩
         have HB2 := Aside0.mk (below_then HB1.out HB1.out.size hb)
         replace HVP := Aside0.mk (V_to HVP.out hb)
         clear hb)
      | fail)
  obtain ⟨M, hMM⟩ : ∃ M, M = IL ms := ⟨_, rfl⟩
  have HMM := Aside0.mk hMM
  rw [← hMM] at HM hmi
  obtain ⟨q0, hq0⟩ : ∃ y : List Int, y = IL (prodQ (([] : List F).take 0).reverse) := ⟨_, rfl⟩
  have HQ0 := Aside0.mk hq0
  clear hMM hq0
  by_cases h0 : D = 0
  · subst h0
    go_wp2_with (first
        | ((with_reducible refine gate_dst (N := 88) rfl ?_); go_must (refine Kd.R_lit (Kd.int .u8) (w0 := w2) w2.heap.size 5 rfl (N := 88) rfl (xs := ([1] : List Int)) (inner := [.int .u8 1]) (ok := fun _ => True) (okp := fun _ => True) (by first | (go_simp; done) | (go_simp; rfl)) ((Reps.none _ _).snoc (p := (1 : Int)) (c := [Value.int .u8 1]) rfl rfl) (fun _ h => h) trivial (Below.refl _ w2) (Nat.le_refl _) (by simp) ?_)
           intro v88 w3 ho hb hg hat
           rw [show ([1] : List Int) = q0 from HQ0.out.symm] at ho
           have HRQ := Aside0.mk (Kd.R_lower ho (Nat.zero_le _))
           have HB3 := Aside0.mk (below_then HB2.out HB2.out.size hb)
           clear hb hg hat ho)
        | ((with_reducible refine gate_dst (N := 90) rfl ?_); go_must (refine goesL_ (some 90) rfl rfl Tryd.func27 (by kernel_rfl) rfl #[.slice A1 l1.length c1, .int .i64 40] rfl (by (try simp only [List.map_toArray, List.map_cons, List.map_nil]); first | done | rfl) ?_; refine (letterbaglaw18_elements.calls 1000 A1 c1 l1 40 M _ (Kd.C_alloc (Kd.C_below HR1.out HB3.out) _) hc1 HM.out).mono ?_)
           rintro e w5 ⟨v5, rfl, ho, hb⟩
           obtain ⟨Mm, cm, rfl⟩ := Kd.R_slice ho
           refine ⟨_, rfl, ?_⟩
           have HG := Aside0.mk (blk_below (blk_new w3 _) hb)
           rw [← marks_nil] at HG
           have HRM := Aside0.mk (Kd.R_lower ho (Nat.zero_le _))
           replace HRQ := Aside0.mk (Kd.R_below (Kd.R_alloc HRQ.out _) hb)
           have HB5 := Aside0.mk (below_then (below_alloc HB3.out _) (below_size (below_alloc HB3.out _)) hb)
           clear hb ho)
        | fail)
    have hgw : w.heap.size ≤ w3.heap.size := HB3.out.size
    obtain ⟨g, hg⟩ : ∃ g, g = w3.heap.size := ⟨_, rfl⟩
    rw [← hg] at HG hgw ⊢
    clear HB3 hg
    rw [HQ0.out] at HRQ
    go_loopw [17, 92] (fun v17 vi wr => ∃ i : Nat, i ≤ M.length ∧ vi = .int .i64 i ∧ Aside0 (Kd.R (Kd.int .u8) 5 wr 0 (fun _ => True) v17 (IL (prodQ (ms.take i).reverse))) ∧ Aside0 (wr.heap[g]? = some (.cells (marks (ms.take i).reverse) 61 (0, 0))) ∧ Aside0 (Kd.R (Kd.int .u8) 5 wr 0 (fun _ => True) (.slice Mm M.length cm) M) ∧ Aside0 (Below w.heap.size w wr)) (fun _ vi _ => M.length - (intOf vi).toNat)
    case atStart => exact ⟨0, Nat.zero_le _, rfl, HRQ, HG, HRM, HB5⟩
    case round =>
      clear HRQ HG HRM HB5
      obtain ⟨i, hi, rfl, HRQ, HG, HRM, HB⟩ := hrel
      by_cases hlt : i < M.length
      · obtain ⟨ad, rfl, hcell⟩ := Kd.at_int (Kd.R_reads' HRM.out).2.2 (i : Int) (by omega) (by omega)
        rw [Int.toNat_natCast] at hcell
        obtain ⟨r, hr⟩ : ∃ r, r = cf ms i := ⟨_, rfl⟩
        have hrd : rd M (i : Int) = (r.v : Int) := by rw [HMM.out, rd_ILn, ← hr]; rfl
        rw [hrd] at hcell
        have hlm : i < ms.length := by rw [HMM.out, IL_len] at hlt; exact hlt
        have HL := Aside0.mk (show (ms.take (i + 1)).reverse = r :: (ms.take i).reverse by rw [List.take_add_one, List.getElem?_eq_getElem hlm, hr, cf_get hlm]; simp)
        have hll : (ms.take i).reverse.length ≤ 40 := by have := HML.out; simp; omega
        obtain ⟨Lc, hLc⟩ : ∃ L, L = (ms.take i).reverse := ⟨_, rfl⟩
        rw [← hLc] at HRQ HG HL hll
        have hpd := prodQ_dg Lc
        have hpl2 := len_of_tr (prodQ_tr Lc)
        have hpr := Product_f (prodQ Lc) [r, 1] (by omega) (by simp) (by
          have := dg_mul (p := prodQ Lc) (q := [r, 1]) (by omega) (by rw [dg_lin]; omega)
          rw [dg_lin] at this
          omega)
        have HPR := Aside0.mk (show field_Product.f (IL (prodQ Lc)) [(r.v : Int), 1] = some (IL (prodQ (r :: Lc)), 0) from hpr)
        obtain ⟨rv, hrv⟩ : ∃ n, n = r.v := ⟨_, rfl⟩
        have hr64 : rv < 64 := by rw [hrv]; exact r.h
        rw [← hrv] at hcell HPR
        have HMC := Aside0.mk (marks_cons Lc r)
        rw [← hrv] at HMC
        have HMA := Aside0.mk (marks_at Lc rv hr64)
        obtain ⟨B17, c17, e17⟩ := Kd.R_slice HRQ.out
        subst e17
        obtain ⟨yq, hyq⟩ : ∃ y, y = IL (prodQ Lc) := ⟨_, rfl⟩
        rw [← hyq] at HRQ HPR ⊢
        clear hrd hlm hll hpd hpl2 hpr hrv hyq hr hLc
        go_wp2_with (first
        | ((with_reducible refine gate_dst (N := 99) rfl ?_); go_must (refine Kd.R_lit (Kd.int .u8) (w0 := wr) wr.heap.size 5 rfl (N := 99) rfl (xs := ([(rv : Int), 1] : List Int)) (inner := [.int .u8 (rv : Int), .int .u8 1]) (ok := fun _ => True) (okp := fun _ => True) (by first | (go_simp; done) | (go_simp; rfl)) (((Reps.none _ _).snoc (p := ((rv : Int) : Int)) (c := [Value.int .u8 (rv : Int)]) rfl rfl).snoc (p := (1 : Int)) (c := [Value.int .u8 1]) rfl rfl) (fun _ h => h) trivial (Below.refl _ wr) (Nat.le_refl _) (by simp) ?_)
           intro v99 w6 ho hb hg hat
           obtain ⟨E, ce, rfl⟩ := Kd.R_slice ho
           have HRL := Aside0.mk (Kd.R_lower ho (Nat.zero_le _))
           replace HRQ := Aside0.mk (Kd.R_below HRQ.out hb)
           replace HRM := Aside0.mk (Kd.R_below HRM.out hb)
           replace HG := Aside0.mk (blk_below HG.out hb)
           replace HB := Aside0.mk (below_then HB.out HB.out.size hb)
           clear hb hg hat ho)
        | ((with_reducible refine gate_dst (N := 100) rfl ?_); go_must (refine goesL_ (some 100) rfl rfl Tryd.func16 (by kernel_rfl) rfl #[.slice B17 yq.length c17, .slice E ([(rv : Int), 1] : List Int).length ce] rfl (by (try simp only [List.map_toArray, List.map_cons, List.map_nil]); first | done | rfl) ?_; refine (field_Product.calls (fun _ => True) B17 c17 yq (fun _ => True) E ce [(rv : Int), 1] (IL (prodQ (r :: Lc))) 0 w6 (Kd.V_mono (Kd.R_V HRQ.out) (fun _ _ => trivial)) (Kd.V_mono (Kd.R_V HRL.out) (fun _ _ => trivial)) (Kd.C_below HT.out HB.out) HPR.out).mono ?_)
           rintro e w7 ⟨v7, rfl, ho, hb⟩
           refine ⟨_, rfl, ?_⟩
           have HRN := Aside0.mk (Kd.R_mono (Kd.R_lower ho (Nat.zero_le _)) (fun _ _ => trivial))
           replace HRM := Aside0.mk (Kd.R_below HRM.out hb)
           replace HG := Aside0.mk (blk_below HG.out hb)
           replace HB := Aside0.mk (below_then HB.out HB.out.size hb)
           have mc : w7.cell? ⟨g, rv, none⟩ = some (markV Lc rv) := (blk_cell HG.out rv).trans HMA.out
           have mf := blk_frozen HG.out rv
           clear hb ho)
        | fail)
        have HS := Aside0.mk (blk_put HG.out rv (.int .i64 1) HMC.out)
        go_roundw
        case rel => exact ⟨i + 1, by omega, by go_num, ⟨by rw [HL.out]; exact Kd.R_set HRN.out HG.out (by intro q hq; simp [Kd.int, Kd.scalar] at hq; subst hq; decide) _ _⟩, ⟨by rw [HL.out]; exact HS.out⟩, ⟨Kd.R_set HRM.out HG.out (by intro q hq; simp [Kd.int, Kd.scalar] at hq; subst hq; decide) _ _⟩, ⟨below_set HB.out hgw⟩⟩
        case measure => simp [intOf]; omega
      · have hil : i = M.length := by omega
        have hms : i = ms.length := by rw [hil, HMM.out, IL_len]
        obtain ⟨Lf, hLf⟩ : ∃ L : List F, L = (ms.take i).reverse := ⟨_, rfl⟩
        have hll : Lf.length ≤ 40 := by rw [hLf]; have := HML.out; simp; omega
        rw [← hLf] at HRQ HG
        have hpd := prodQ_dg Lf
        have hpl2 := len_of_tr (prodQ_tr Lf)
        have hrt := Roots_f (prodQ Lf) (by omega) (by omega) 1000 (by omega)
        have hlen := cntM_len Lf
        have hat := cntM_at Lf
        obtain ⟨B17, c17, e17⟩ := Kd.R_slice HRQ.out
        subst e17
        obtain ⟨yq, hyq⟩ : ∃ y, y = IL (prodQ Lf) := ⟨_, rfl⟩
        rw [← hyq] at HRQ hrt ⊢
        obtain ⟨rs, hrs⟩ : ∃ y, y = rootsOf (prodQ Lf) := ⟨_, rfl⟩
        rw [← hrs] at hrt hlen hat
        obtain ⟨rl, hrl⟩ : ∃ y, y = IL rs := ⟨_, rfl⟩
        rw [← hrl] at hrt
        have hlen2 : cntM Lf 64 = rl.length := by rw [hlen, hrl, IL_len]
        have HLEN := Aside0.mk hlen2
        have HAT := Aside0.mk (show ∀ x, x < 64 → elm x ∈ Lf → cntM Lf x < rl.length ∧ rd rl ((cntM Lf x : Nat) : Int) = (x : Int) from fun x hx hm => by
          obtain ⟨h1, h2⟩ := hat x hx hm
          exact ⟨by rw [hrl, IL_len]; exact h1, by rw [hrl, rd_ILn, h2, ofF_elm hx]⟩)
        have HRT := Aside0.mk hrt
        have hlt' : decide (i < M.length) = false := decide_eq_false hlt
        clear hil hms hLf hll hpd hpl2 hrt hlen hat hyq hrs hrl hlen2 hlt
        go_wp2_with (first
        | ((with_reducible refine gate_dst (N := 111) rfl ?_); go_must (refine goesL_ (some 111) rfl rfl Tryd.func39 (by kernel_rfl) rfl #[.slice B17 yq.length c17] rfl (by (try simp only [List.map_toArray, List.map_cons, List.map_nil]); first | done | rfl) ?_; refine (field_Roots.calls 1000 (fun _ => True) B17 c17 yq rl 0 wr (Kd.V_mono (Kd.R_V HRQ.out) (fun _ _ => trivial)) (Kd.C_below HT.out HB.out) HRT.out).mono ?_)
           rintro e w8 ⟨v8, rfl, ho, hb⟩
           obtain ⟨Br, cr, rfl⟩ := Kd.R_slice ho
           refine ⟨_, rfl, ?_⟩
           have HRR := Aside0.mk ho
           replace HG := Aside0.mk (blk_below HG.out hb)
           replace HB := Aside0.mk (below_then HB.out HB.out.size hb)
           clear hb ho)
        | ((with_reducible refine gate_dst (N := 116) rfl ?_); go_must (refine wpList_load_row rfl 61 (.tmp 18) rfl g rfl 61 (marks Lf) (0, 0) _ HG.out Tryd.underlying61 rfl (by rw [marks_size]; kernel_rfl) ?_))
          | fail)
        go_loop [25, 117] (fun vk vx => ∃ x : Nat, x ≤ 64 ∧ vx = .int .i64 x ∧ vk = .int .i64 (cntM Lf x)) (fun _ vx => 64 - (intOf vx).toNat)
        case atStart => exact ⟨0, by omega, rfl, rfl⟩
        case round =>
          obtain ⟨x, hx, rfl, rfl⟩ := hrel
          by_cases hlx : x < 64
          · have hix := fun w => index_marks Lf x hlx w
            have hcs := cntM_succ Lf x
            by_cases hmem : elm x ∈ Lf
            · obtain ⟨hc1, hc2⟩ := HAT.out x hlx hmem
              rw [if_pos hmem] at hcs
              have HCS := Aside0.mk hcs
              have hmv : markV Lf x = .int .i64 1 := by unfold markV; rw [if_pos hmem]
              rw [hmv] at hix
              obtain ⟨ad, rfl, hcell⟩ := Kd.at_int (Kd.R_reads' HRR.out).2.2 ((cntM Lf x : Nat) : Int) (by omega) (by omega)
              rw [hc2, Int.toNat_natCast] at hcell
              obtain ⟨cn, hcn⟩ : ∃ n, n = cntM Lf x := ⟨_, rfl⟩
              rw [← hcn] at hcell hc1 HCS ⊢
              have hcl : rl.length ≤ 9223372036854775807 := (Kd.R_reads' HRR.out).2.2.2.1
              clear hcs hmv hc2 hmem hcn
              go_wp2
              go_round
              case rel => exact ⟨x + 1, by omega, by go_num, by rw [HCS.out]; go_num⟩
              case measure => simp [intOf]; omega
            · rw [if_neg hmem] at hcs
              have HCS := Aside0.mk hcs
              have hmv : markV Lf x = .int .i64 0 := by unfold markV; rw [if_neg hmem]
              rw [hmv] at hix
              clear hcs hmv hmem
              go_wp2
              go_round
              case rel => exact ⟨x + 1, by omega, by go_num, by rw [HCS.out]; rfl⟩
              case measure => simp [intOf]; omega
          · have hx64 : x = 64 := by omega
            subst hx64
            have e1 : (((cntM Lf 64 : Nat) : Int) == (rl.length : Int)) = true := by rw [HLEN.out]; simp
            go_wp2_with (first
        | ((with_reducible refine gate_dst (N := 144) rfl ?_); go_must ((try (refine gate_guard (by rfl) ?_; dsimp only)); refine goesL_ (some 144) rfl rfl Tryd.func11 (by kernel_rfl) rfl #[] rfl (by (try simp only [List.map_toArray, List.map_cons, List.map_nil]); first | done | rfl) ?_; refine (letterbaglaw18_awake.calls true w8 (Kd.C_below HT.out HB.out) rfl).mono ?_)
           rintro e we ⟨rfl, hb⟩
           have HE := Aside0.mk (below_then HB.out HB.out.size hb)
           refine ⟨_, rfl, ?_⟩
           clear hb)
              | fail)
            go_ret
            exact ⟨rfl, HE.out⟩
  · have hD1 : 1 ≤ D := by omega
    have hrl1 := rootsOf_len p (by rw [← HDG.out]; omega)
    rw [← HDG.out] at hrl1
    have hrt1 := Roots_f p (by have := HPL.out; omega) (by rw [← HDG.out]; omega) 1000 (by omega)
    obtain ⟨rlp, hrlp⟩ : ∃ y, y = IL (rootsOf p) := ⟨_, rfl⟩
    have hrln : rlp.length < D := by rw [hrlp, IL_len]; exact hrl1
    have HEVR := Aside0.mk (show ∀ i : Nat, i < rlp.length → ∃ r : F, rd rlp (i : Int) = (r.v : Int) ∧ ev p r = 0 from fun i hi => by
      rw [hrlp, IL_len] at hi
      exact ⟨cf (rootsOf p) i, by rw [hrlp, rd_ILn]; rfl, rootsOf_mem.1 (by rw [cf_get hi]; exact List.getElem_mem hi)⟩)
    rw [← hrlp] at hrt1
    have HRT1 := Aside0.mk hrt1
    have e1 : decide ((0 : Int) ≤ (D : Int) - 1) = true := decide_eq_true (by omega)
    have e2 : decide ((1 : Int) ≤ (D : Int)) = true := decide_eq_true (by omega)
    have e3 : decide ((D : Int) - 1 < (rlp.length : Int)) = false := decide_eq_false (by omega)
    have e4 : decide (1 ≤ D) = true := decide_eq_true hD1
    have hDl : D ≤ 40 := by have := HPL.out; omega
    clear hrl1 hrt1 hrlp h0
    go_wp2_with (first
      | ((with_reducible refine gate_dst (N := 41) rfl ?_); go_must (refine goesL_ (some 41) rfl rfl Tryd.func39 (by kernel_rfl) rfl #[.slice P (IL p).length cp] rfl (by (try simp only [List.map_toArray, List.map_cons, List.map_nil]); first | done | rfl) ?_; refine (field_Roots.calls 1000 (fun _ => True) P cp (IL p) rlp 0 w2 (HVP.out _) (Kd.C_below HT.out HB2.out) HRT1.out).mono ?_)
         rintro e wa ⟨v4, rfl, ho, hb⟩
         obtain ⟨R4, c4, rfl, hV⟩ := row_V ho
         refine ⟨_, rfl, ?_⟩
         have HVR := Aside0.mk hV
         replace HVP := Aside0.mk (V_to HVP.out hb)
         have HBa := Aside0.mk (below_then HB2.out HB2.out.size hb)
         clear hb ho hV)
      | fail)
    go_loopw [54] (fun vi wr => ∃ i : Nat, i ≤ rlp.length ∧ vi = .int .i64 i ∧ Aside0 (Below wa.heap.size wa wr)) (fun vi _ => rlp.length - (intOf vi).toNat)
    case atStart => exact ⟨0, Nat.zero_le _, rfl, ⟨Below.refl _ _⟩⟩
    case round =>
      obtain ⟨i, hi, rfl, HBr⟩ := hrel
      by_cases hlt : i < rlp.length
      · obtain ⟨ad, rfl, hcell⟩ := Kd.at_int (V_C (V_to HVR.out HBr.out)) (i : Int) (by omega) (by omega)
        obtain ⟨r, hr1, hr2⟩ := HEVR.out i hlt
        rw [Int.toNat_natCast, hr1] at hcell
        have hev := Eval_f p (by have := HPL.out; omega) r
        rw [hr2, ofF_zero] at hev
        obtain ⟨d, r', hdv, htd, htr, hdr, hde⟩ := Divide_f p [r, 1] (by have := HPL.out; omega) (by simp) (by rw [dg_lin]; omega) 600001 (by omega)
        have hr0 := root_divides hr2 hdr htr hde
        rw [hr0] at hdv
        obtain ⟨dl, hdl'⟩ : ∃ y, y = IL d := ⟨_, rfl⟩
        rw [← hdl'] at hdv
        have HDV := Aside0.mk (show field_Divide.f 600001 (IL p) [(r.v : Int), 1] = some (dl, [], 0) from hdv)
        have HEV := Aside0.mk (show field_Eval.f (IL p) (r.v : Int) = some (0, 0) from hev)
        generalize r.v = rv at hcell HDV HEV
        have hlt' : decide (i < rlp.length) = true := decide_eq_true hlt
        clear hr1 hr2 hev hdv htd htr hdr hde hr0 hdl'
        go_wp2_with (first
      | ((with_reducible refine gate_dst (N := 61) rfl ?_); go_must (refine goesL_ (some 61) rfl rfl Tryd.func38 (by kernel_rfl) rfl #[.slice P (IL p).length cp, .int .u8 (rv : Int)] rfl (by (try simp only [List.map_toArray, List.map_cons, List.map_nil]); first | done | rfl) ?_; refine (field_Eval.calls (fun _ => True) P cp (IL p) (rv : Int) 0 0 wr (V_to HVP.out HBr.out _) (Kd.C_below HT.out (below_then HBa.out HBa.out.size HBr.out)) HEV.out).mono ?_)
         rintro e w4 ⟨rfl, hb⟩
         refine ⟨_, rfl, ?_⟩
         replace HBr := Aside0.mk (below_then HBr.out HBr.out.size hb)
         clear hb)
      | ((with_reducible refine gate_dst (N := 67) rfl ?_); go_must (refine Kd.R_lit (Kd.int .u8) (w0 := w4) w4.heap.size 5 rfl (N := 67) rfl (xs := ([(rv : Int), 1] : List Int)) (inner := [.int .u8 (rv : Int), .int .u8 1]) (ok := fun _ => True) (okp := fun _ => True) (by first | (go_simp; done) | (go_simp; rfl)) (((Reps.none _ _).snoc (p := ((rv : Int) : Int)) (c := [Value.int .u8 (rv : Int)]) rfl rfl).snoc (p := (1 : Int)) (c := [Value.int .u8 1]) rfl rfl) (fun _ h => h) trivial (Below.refl _ w4) (Nat.le_refl _) (by simp) ?_)
         intro v67 w6 ho hb hg hat
         obtain ⟨E, ce, rfl⟩ := Kd.R_slice ho
         have HRL := Aside0.mk ho
         replace HBr := Aside0.mk (below_then HBr.out HBr.out.size hb)
         clear hb hg hat ho)
      | ((with_reducible refine gate_dst (N := 68) rfl ?_); go_must (refine goesL_ (some 68) rfl rfl Tryd.func17 (by kernel_rfl) rfl #[.slice P (IL p).length cp, .slice E ([(rv : Int), 1] : List Int).length ce] rfl (by (try simp only [List.map_toArray, List.map_cons, List.map_nil]); first | done | rfl) ?_; refine (field_Divide.calls 600001 (fun _ => True) P cp (IL p) (fun _ => True) E ce [(rv : Int), 1] dl [] 0 w6 (V_to HVP.out HBr.out _) (Kd.V_mono (Kd.R_V HRL.out) (fun _ _ => trivial)) (Kd.C_below HT.out (below_then HBa.out HBa.out.size HBr.out)) HDV.out).mono ?_)
         rintro e w7 ⟨va, vb, rfl, ho1, ho2, hb⟩
         obtain ⟨E1, ce1, rfl⟩ := Kd.R_slice ho1
         obtain ⟨E2, ce2, rfl⟩ := Kd.R_slice ho2
         refine ⟨_, rfl, ?_⟩
         replace HBr := Aside0.mk (below_then HBr.out HBr.out.size hb)
         clear hb ho1 ho2)
          | fail)
        go_roundw
        case rel => exact ⟨i + 1, by omega, by go_num, HBr⟩
        case measure => simp [intOf]; omega
      · have HBw := Aside0.mk (below_then HBa.out HBa.out.size HBr.out)
        have hltX : decide (i < rlp.length) = false := decide_eq_false hlt
        clear hlt HVP HVR HEVR
        go_wp2_with (first
            | ((with_reducible refine gate_dst (N := 88) rfl ?_); go_must (refine Kd.R_lit (Kd.int .u8) (w0 := wr) wr.heap.size 5 rfl (N := 88) rfl (xs := ([1] : List Int)) (inner := [.int .u8 1]) (ok := fun _ => True) (okp := fun _ => True) (by first | (go_simp; done) | (go_simp; rfl)) ((Reps.none _ _).snoc (p := (1 : Int)) (c := [Value.int .u8 1]) rfl rfl) (fun _ h => h) trivial (Below.refl _ wr) (Nat.le_refl _) (by simp) ?_)
               intro v88 w3 ho hb hg hat
               rw [show ([1] : List Int) = q0 from HQ0.out.symm] at ho
               have HRQ := Aside0.mk (Kd.R_lower ho (Nat.zero_le _))
               have HB3 := Aside0.mk (below_then HBw.out HBw.out.size hb)
               clear hb hg hat ho)
            | ((with_reducible refine gate_dst (N := 90) rfl ?_); go_must (refine goesL_ (some 90) rfl rfl Tryd.func27 (by kernel_rfl) rfl #[.slice A1 l1.length c1, .int .i64 40] rfl (by (try simp only [List.map_toArray, List.map_cons, List.map_nil]); first | done | rfl) ?_; refine (letterbaglaw18_elements.calls 1000 A1 c1 l1 40 M _ (Kd.C_alloc (Kd.C_below HR1.out HB3.out) _) hc1 HM.out).mono ?_)
               rintro e w5 ⟨v5, rfl, ho, hb⟩
               obtain ⟨Mm, cm, rfl⟩ := Kd.R_slice ho
               refine ⟨_, rfl, ?_⟩
               have HG := Aside0.mk (blk_below (blk_new w3 _) hb)
               rw [← marks_nil] at HG
               have HRM := Aside0.mk (Kd.R_lower ho (Nat.zero_le _))
               replace HRQ := Aside0.mk (Kd.R_below (Kd.R_alloc HRQ.out _) hb)
               have HB5 := Aside0.mk (below_then (below_alloc HB3.out _) (below_size (below_alloc HB3.out _)) hb)
               clear hb ho)
            | fail)
        have hgw : w.heap.size ≤ w3.heap.size := HB3.out.size
        obtain ⟨g, hg⟩ : ∃ g, g = w3.heap.size := ⟨_, rfl⟩
        rw [← hg] at HG hgw ⊢
        clear HB3 hg
        rw [HQ0.out] at HRQ
        go_loopw [17, 92] (fun v17 vi wr => ∃ i : Nat, i ≤ M.length ∧ vi = .int .i64 i ∧ Aside0 (Kd.R (Kd.int .u8) 5 wr 0 (fun _ => True) v17 (IL (prodQ (ms.take i).reverse))) ∧ Aside0 (wr.heap[g]? = some (.cells (marks (ms.take i).reverse) 61 (0, 0))) ∧ Aside0 (Kd.R (Kd.int .u8) 5 wr 0 (fun _ => True) (.slice Mm M.length cm) M) ∧ Aside0 (Below w.heap.size w wr)) (fun _ vi _ => M.length - (intOf vi).toNat)
        case atStart => exact ⟨0, Nat.zero_le _, rfl, HRQ, HG, HRM, HB5⟩
        case round =>
          clear HRQ HG HRM HB5
          obtain ⟨i, hi, rfl, HRQ, HG, HRM, HB⟩ := hrel
          by_cases hlt : i < M.length
          · obtain ⟨ad, rfl, hcell⟩ := Kd.at_int (Kd.R_reads' HRM.out).2.2 (i : Int) (by omega) (by omega)
            rw [Int.toNat_natCast] at hcell
            obtain ⟨r, hr⟩ : ∃ r, r = cf ms i := ⟨_, rfl⟩
            have hrd : rd M (i : Int) = (r.v : Int) := by rw [HMM.out, rd_ILn, ← hr]; rfl
            rw [hrd] at hcell
            have hlm : i < ms.length := by rw [HMM.out, IL_len] at hlt; exact hlt
            have HL := Aside0.mk (show (ms.take (i + 1)).reverse = r :: (ms.take i).reverse by rw [List.take_add_one, List.getElem?_eq_getElem hlm, hr, cf_get hlm]; simp)
            have hll : (ms.take i).reverse.length ≤ 40 := by have := HML.out; simp; omega
            obtain ⟨Lc, hLc⟩ : ∃ L, L = (ms.take i).reverse := ⟨_, rfl⟩
            rw [← hLc] at HRQ HG HL hll
            have hpd := prodQ_dg Lc
            have hpl2 := len_of_tr (prodQ_tr Lc)
            have hpr := Product_f (prodQ Lc) [r, 1] (by omega) (by simp) (by
              have := dg_mul (p := prodQ Lc) (q := [r, 1]) (by omega) (by rw [dg_lin]; omega)
              rw [dg_lin] at this
              omega)
            have HPR := Aside0.mk (show field_Product.f (IL (prodQ Lc)) [(r.v : Int), 1] = some (IL (prodQ (r :: Lc)), 0) from hpr)
            obtain ⟨rv, hrv⟩ : ∃ n, n = r.v := ⟨_, rfl⟩
            have hr64 : rv < 64 := by rw [hrv]; exact r.h
            rw [← hrv] at hcell HPR
            have HMC := Aside0.mk (marks_cons Lc r)
            rw [← hrv] at HMC
            have HMA := Aside0.mk (marks_at Lc rv hr64)
            obtain ⟨B17, c17, e17⟩ := Kd.R_slice HRQ.out
            subst e17
            obtain ⟨yq, hyq⟩ : ∃ y, y = IL (prodQ Lc) := ⟨_, rfl⟩
            rw [← hyq] at HRQ HPR ⊢
            clear hrd hlm hll hpd hpl2 hpr hrv hyq hr hLc
            go_wp2_with (first
            | ((with_reducible refine gate_dst (N := 99) rfl ?_); go_must (refine Kd.R_lit (Kd.int .u8) (w0 := wr) wr.heap.size 5 rfl (N := 99) rfl (xs := ([(rv : Int), 1] : List Int)) (inner := [.int .u8 (rv : Int), .int .u8 1]) (ok := fun _ => True) (okp := fun _ => True) (by first | (go_simp; done) | (go_simp; rfl)) (((Reps.none _ _).snoc (p := ((rv : Int) : Int)) (c := [Value.int .u8 (rv : Int)]) rfl rfl).snoc (p := (1 : Int)) (c := [Value.int .u8 1]) rfl rfl) (fun _ h => h) trivial (Below.refl _ wr) (Nat.le_refl _) (by simp) ?_)
               intro v99 w6 ho hb hg hat
               obtain ⟨E, ce, rfl⟩ := Kd.R_slice ho
               have HRL := Aside0.mk (Kd.R_lower ho (Nat.zero_le _))
               replace HRQ := Aside0.mk (Kd.R_below HRQ.out hb)
               replace HRM := Aside0.mk (Kd.R_below HRM.out hb)
               replace HG := Aside0.mk (blk_below HG.out hb)
               replace HB := Aside0.mk (below_then HB.out HB.out.size hb)
               clear hb hg hat ho)
            | ((with_reducible refine gate_dst (N := 100) rfl ?_); go_must (refine goesL_ (some 100) rfl rfl Tryd.func16 (by kernel_rfl) rfl #[.slice B17 yq.length c17, .slice E ([(rv : Int), 1] : List Int).length ce] rfl (by (try simp only [List.map_toArray, List.map_cons, List.map_nil]); first | done | rfl) ?_; refine (field_Product.calls (fun _ => True) B17 c17 yq (fun _ => True) E ce [(rv : Int), 1] (IL (prodQ (r :: Lc))) 0 w6 (Kd.V_mono (Kd.R_V HRQ.out) (fun _ _ => trivial)) (Kd.V_mono (Kd.R_V HRL.out) (fun _ _ => trivial)) (Kd.C_below HT.out HB.out) HPR.out).mono ?_)
               rintro e w7 ⟨v7, rfl, ho, hb⟩
               refine ⟨_, rfl, ?_⟩
               have HRN := Aside0.mk (Kd.R_mono (Kd.R_lower ho (Nat.zero_le _)) (fun _ _ => trivial))
               replace HRM := Aside0.mk (Kd.R_below HRM.out hb)
               replace HG := Aside0.mk (blk_below HG.out hb)
               replace HB := Aside0.mk (below_then HB.out HB.out.size hb)
               have mc : w7.cell? ⟨g, rv, none⟩ = some (markV Lc rv) := (blk_cell HG.out rv).trans HMA.out
               have mf := blk_frozen HG.out rv
               clear hb ho)
            | fail)
            have HS := Aside0.mk (blk_put HG.out rv (.int .i64 1) HMC.out)
            go_roundw
            case rel => exact ⟨i + 1, by omega, by go_num, ⟨by rw [HL.out]; exact Kd.R_set HRN.out HG.out (by intro q hq; simp [Kd.int, Kd.scalar] at hq; subst hq; decide) _ _⟩, ⟨by rw [HL.out]; exact HS.out⟩, ⟨Kd.R_set HRM.out HG.out (by intro q hq; simp [Kd.int, Kd.scalar] at hq; subst hq; decide) _ _⟩, ⟨below_set HB.out hgw⟩⟩
            case measure => simp [intOf]; omega
          · have hil : i = M.length := by omega
            have hms : i = ms.length := by rw [hil, HMM.out, IL_len]
            obtain ⟨Lf, hLf⟩ : ∃ L : List F, L = (ms.take i).reverse := ⟨_, rfl⟩
            have hll : Lf.length ≤ 40 := by rw [hLf]; have := HML.out; simp; omega
            rw [← hLf] at HRQ HG
            have hpd := prodQ_dg Lf
            have hpl2 := len_of_tr (prodQ_tr Lf)
            have hrt := Roots_f (prodQ Lf) (by omega) (by omega) 1000 (by omega)
            have hlen := cntM_len Lf
            have hat := cntM_at Lf
            obtain ⟨B17, c17, e17⟩ := Kd.R_slice HRQ.out
            subst e17
            obtain ⟨yq, hyq⟩ : ∃ y, y = IL (prodQ Lf) := ⟨_, rfl⟩
            rw [← hyq] at HRQ hrt ⊢
            obtain ⟨rs, hrs⟩ : ∃ y, y = rootsOf (prodQ Lf) := ⟨_, rfl⟩
            rw [← hrs] at hrt hlen hat
            obtain ⟨rl, hrl⟩ : ∃ y, y = IL rs := ⟨_, rfl⟩
            rw [← hrl] at hrt
            have hlen2 : cntM Lf 64 = rl.length := by rw [hlen, hrl, IL_len]
            have HLEN := Aside0.mk hlen2
            have HAT := Aside0.mk (show ∀ x, x < 64 → elm x ∈ Lf → cntM Lf x < rl.length ∧ rd rl ((cntM Lf x : Nat) : Int) = (x : Int) from fun x hx hm => by
              obtain ⟨h1, h2⟩ := hat x hx hm
              exact ⟨by rw [hrl, IL_len]; exact h1, by rw [hrl, rd_ILn, h2, ofF_elm hx]⟩)
            have HRT := Aside0.mk hrt
            have hlt' : decide (i < M.length) = false := decide_eq_false hlt
            clear hil hms hLf hll hpd hpl2 hrt hlen hat hyq hrs hrl hlen2 hlt
            go_wp2_with (first
            | ((with_reducible refine gate_dst (N := 111) rfl ?_); go_must (refine goesL_ (some 111) rfl rfl Tryd.func39 (by kernel_rfl) rfl #[.slice B17 yq.length c17] rfl (by (try simp only [List.map_toArray, List.map_cons, List.map_nil]); first | done | rfl) ?_; refine (field_Roots.calls 1000 (fun _ => True) B17 c17 yq rl 0 wr (Kd.V_mono (Kd.R_V HRQ.out) (fun _ _ => trivial)) (Kd.C_below HT.out HB.out) HRT.out).mono ?_)
               rintro e w8 ⟨v8, rfl, ho, hb⟩
               obtain ⟨Br, cr, rfl⟩ := Kd.R_slice ho
               refine ⟨_, rfl, ?_⟩
               have HRR := Aside0.mk ho
               replace HG := Aside0.mk (blk_below HG.out hb)
               replace HB := Aside0.mk (below_then HB.out HB.out.size hb)
               clear hb ho)
            | ((with_reducible refine gate_dst (N := 116) rfl ?_); go_must (refine wpList_load_row rfl 61 (.tmp 18) rfl g rfl 61 (marks Lf) (0, 0) _ HG.out Tryd.underlying61 rfl (by rw [marks_size]; kernel_rfl) ?_))
              | fail)
            go_loop [25, 117] (fun vk vx => ∃ x : Nat, x ≤ 64 ∧ vx = .int .i64 x ∧ vk = .int .i64 (cntM Lf x)) (fun _ vx => 64 - (intOf vx).toNat)
            case atStart => exact ⟨0, by omega, rfl, rfl⟩
            case round =>
              obtain ⟨x, hx, rfl, rfl⟩ := hrel
              by_cases hlx : x < 64
              · have hix := fun w => index_marks Lf x hlx w
                have hcs := cntM_succ Lf x
                by_cases hmem : elm x ∈ Lf
                · obtain ⟨hc1, hc2⟩ := HAT.out x hlx hmem
                  rw [if_pos hmem] at hcs
                  have HCS := Aside0.mk hcs
                  have hmv : markV Lf x = .int .i64 1 := by unfold markV; rw [if_pos hmem]
                  rw [hmv] at hix
                  obtain ⟨ad, rfl, hcell⟩ := Kd.at_int (Kd.R_reads' HRR.out).2.2 ((cntM Lf x : Nat) : Int) (by omega) (by omega)
                  rw [hc2, Int.toNat_natCast] at hcell
                  obtain ⟨cn, hcn⟩ : ∃ n, n = cntM Lf x := ⟨_, rfl⟩
                  rw [← hcn] at hcell hc1 HCS ⊢
                  have hcl : rl.length ≤ 9223372036854775807 := (Kd.R_reads' HRR.out).2.2.2.1
                  clear hcs hmv hc2 hmem hcn
                  go_wp2
                  go_round
                  case rel => exact ⟨x + 1, by omega, by go_num, by rw [HCS.out]; go_num⟩
                  case measure => simp [intOf]; omega
                · rw [if_neg hmem] at hcs
                  have HCS := Aside0.mk hcs
                  have hmv : markV Lf x = .int .i64 0 := by unfold markV; rw [if_neg hmem]
                  rw [hmv] at hix
                  clear hcs hmv hmem
                  go_wp2
                  go_round
                  case rel => exact ⟨x + 1, by omega, by go_num, by rw [HCS.out]; rfl⟩
                  case measure => simp [intOf]; omega
              · have hx64 : x = 64 := by omega
                subst hx64
                have e1 : (((cntM Lf 64 : Nat) : Int) == (rl.length : Int)) = true := by rw [HLEN.out]; simp
                go_wp2_with (first
            | ((with_reducible refine gate_dst (N := 144) rfl ?_); go_must ((try (refine gate_guard (by rfl) ?_; dsimp only)); refine goesL_ (some 144) rfl rfl Tryd.func11 (by kernel_rfl) rfl #[] rfl (by (try simp only [List.map_toArray, List.map_cons, List.map_nil]); first | done | rfl) ?_; refine (letterbaglaw18_awake.calls true w8 (Kd.C_below HT.out HB.out) rfl).mono ?_)
               rintro e we ⟨rfl, hb⟩
               have HE := Aside0.mk (below_then HB.out HB.out.size hb)
               refine ⟨_, rfl, ?_⟩
               clear hb)
                  | fail)
                go_ret
                exact ⟨rfl, HE.out⟩
theorem u8_nn {l : List Int} (h : ∀ x ∈ l, (Lit.int .u8 x).wf = true) : ∀ x ∈ l, 0 ≤ x := fun x hx => by
  have := h x hx
  simp [Lit.wf, IntKind.min, IntKind.max, IntKind.signed, IntKind.bits] at this
  omega
theorem roots_walk (a0 : Option Addr) (len0 cap0 : Nat) (z0 : List Int) (a1 : Option Addr) (len1 cap1 : Nat) (z1 : List Int) (w : World) (w0 : (a0 = none ∧ len0 = 0 ∧ cap0 = 0 ∧ z0 = []) ∨ ∃ x, a0 = some x ∧ len0 ≤ cap0 ∧ cap0 ≤ maxLen ∧ z0.length = cap0 ∧ (∀ i, i < z0.length → w.cell? (x.add i) = some (.int .u8 (z0.getD i 0))) ∧ ∀ n ∈ z0, (Lit.int .u8 n).wf = true) (y0 : len0 * 1 ≤ 140737488351232) (w1 : (a1 = none ∧ len1 = 0 ∧ cap1 = 0 ∧ z1 = []) ∨ ∃ x, a1 = some x ∧ len1 ≤ cap1 ∧ cap1 ≤ maxLen ∧ z1.length = cap1 ∧ (∀ i, i < z1.length → w.cell? (x.add i) = some (.int .u8 (z1.getD i 0))) ∧ ∀ n ∈ z1, (Lit.int .u8 n).wf = true) (y1 : len1 * 1 ≤ 140737488351232) (hT : Kd.C (Kd.int .u8) w (some ⟨0, 0, none⟩) 63 pwI) :
    Calls Tryd.prog 9 #[.slice a0 len0 cap0, .slice a1 len1 cap1] w fun e w' => e = .returned (.bool true) ∧ Below w.heap.size w w' := by
  obtain ⟨l0, rfl, hr0, hm0, hw0, hc0⟩ := ReadsInt.ofRowC w0
  obtain ⟨l1, rfl, hr1, hm1, hw1, hc1⟩ := ReadsInt.ofRowC w1
  exact roots_calls _ _ l0 _ _ l1 w (Kd.C_of_reads (d := (0 : Int)) (h1 := fun _ => rfl) hr0) hc0 (Kd.C_of_reads (d := (0 : Int)) (h1 := fun _ => rfl) hr1) hc1 (u8_nn hw0) (u8_nn hw1) hT
end Go.Proofs.YtehgfpfmpkmdmaaDoor.Print
