/- The contract of field.eval: the value of a polynomial by Horner's rule, over the iterator slices.Backward. By hand, in the printed contracts' form. -/
import Derived.RangeFuncNested
import Derived.RangeFuncBound
import Derived.RangeFuncCalls
import Derived.RangeFuncLeaves
import Derived.Shelf.Abstract
import Derived.OwnWalkIn
import Derived.TacticsInMore
import Derived.LoopNIn
import Derived.LoopIn
import Derived.Maps.AppendAt
import Derived.Test.YtehgfpfmpkmdmaaDoorGp
namespace Go.Proofs.YtehgfpfmpkmdmaaDoor.Print
open Go.RowKit Go.Shelf Go.Proofs.YtehgfpfmpkmdmaaDoorW.PrintWords Go.Proofs.YtehgfpfmpkmdmaaDoorW.PrintLast Go.Proofs.YtehgfpfmpkmdmaaDoorW.PrintMore
open Go.Proofs.YtehgfpfmpkmdmaaDoor.Gf
attribute [local go_sem] Oper.semAt_some
set_option linter.unusedVariables false
set_option linter.unusedSimpArgs false

abbrev BackEl := { x : Int × Int // elB x.2 = true }
def backV (x : BackEl) : Array Value := #[.int .i64 x.1.1, .int .u8 x.1.2]
def backG (l : List Int) (j : Nat) : BackEl := if h : elB (rd l ((l.length - 1 - j : Nat) : Int)) = true then ⟨(((l.length - 1 - j : Nat) : Int), rd l ((l.length - 1 - j : Nat) : Int)), h⟩ else ⟨(0, 0), by decide⟩
def backs (l : List Int) (k : Nat) : List BackEl := (List.range k).map (backG l)
theorem backs_len (l : List Int) (k : Nat) : (backs l k).length = k := by simp [backs]
theorem backs_succ (l : List Int) (k : Nat) : backs l (k + 1) = backs l k ++ [backG l k] := by simp [backs, List.range_succ]
/-- What a round of the caller keeps: what lay below n₁, and the iterator's captured variable. -/
def KpB (n₁ B : Nat) (W W' : World) : Prop := Below n₁ W W' ∧ ∀ o, W.heap[B]? = some o → W'.heap[B]? = some o
theorem KpB.trans {n₁ B : Nat} {X Y Z : World} (h : KpB n₁ B X Y) (k : KpB n₁ B Y Z) : KpB n₁ B X Z := ⟨h.1.trans k.1, fun o ho => k.2 o (h.2 o ho)⟩

set_option maxRecDepth 100000 in
set_option maxHeartbeats 4000000 in
theorem back_in (n : Nat) (hn : 1 ≤ n) (l B : Nat) (A : Option Addr) (c : Nat) (zs : List Int) (w : World) (J Jx : List BackEl → World → Prop)
    (hr : Kd.C (Kd.int .u8) w A zs.length zs) (hz : zs.all elB = true)
    (W : World)
    (hY : ∀ pre x W1, J pre W1 → pre.length < zs.length → YieldAt Fence.wide (n - 1) Tryd.prog l (backV x) W1 fun e W' =>
      (e = .returned (.bool true) ∧ J (pre ++ [x]) W' ∧ KpB w.heap.size B W1 W') ∨ (e = .returned (.bool false) ∧ Jx (pre ++ [x]) W'))
    (hb : Below w.heap.size w W) (hb0 : W.heap[B]? = some (.cells #[.slice A zs.length c] 22 (0, 0))) (h0 : J [] W) :
    CallsIn Fence.wide n Tryd.prog 64 #[.func (.yield l) #[] #[], .pointer (some ⟨B, 0, none⟩)] W fun e W' => (∃ v, e = .returned v) ∧
      ((∃ ys, ys = backs zs zs.length ∧ J ys W') ∨ (∃ pre, True ∧ Jx pre W')) := by
  have hmax : zs.length ≤ 9223372036854775807 := hr.2.1
  have HR := Aside0.mk hr
  have HZ := Aside0.mk hz
  have HY := Aside0.mk hY
  have HB := Aside0.mk hb
  have H0 := Aside0.mk hb0
  have HJ0 := Aside0.mk h0
  have g0 : W.cell? ⟨B, 0, none⟩ = some (.slice A zs.length c) := (blk_cell hb0 0).trans rfl
  clear hr hz hY hb hb0 h0
  refine callsIn_of_wp Tryd.func64 rfl trivial ?_ rfl
  simp only [Tryd.ntmps64, List.size_toArray, List.length_cons, List.length_nil, Nat.reduceAdd, Nat.reduceSub, Array.replicate_succ, Array.replicate_zero, List.push_toArray, List.append_toArray, List.nil_append, List.cons_append]
  gi_wp2
  gi_loopw [3] (fun vi wr => ∃ k : Nat, k ≤ zs.length ∧ vi = .int .i64 ((zs.length : Int) - 1 - (k : Int)) ∧ Aside0 (J (backs zs k) wr ∧ Below w.heap.size w wr ∧ wr.heap[B]? = some (.cells #[.slice A zs.length c] 22 (0, 0))))
    (fun vi _ => (intOf vi + 1).toNat)
  case atStart => exact ⟨0, Nat.zero_le _, by simp, ⟨HJ0.out, HB.out, H0.out⟩⟩
  case round =>
    obtain ⟨k, hk, rfl, HI⟩ := hrel
    obtain ⟨hj, hbw, hw0⟩ := HI.out
    have g1 : wr.cell? ⟨B, 0, none⟩ = some (.slice A zs.length c) := (blk_cell hw0 0).trans rfl
    by_cases hlt : k < zs.length
    · obtain ⟨m, hm⟩ : ∃ m : Nat, m = zs.length - 1 - k := ⟨_, rfl⟩
      have hmi : (zs.length : Int) - 1 - (k : Int) = (m : Int) := by omega
      have hml : m < zs.length := by omega
      obtain ⟨ad, rfl, hcell⟩ := Kd.at_int (Kd.C_below HR.out hbw) (m : Int) (by omega) (by omega)
      rw [Int.toNat_natCast] at hcell
      have hg : backG zs k = ⟨((m : Int), rd zs (m : Int)), all_rd HZ.out hml⟩ := by
        unfold backG
        rw [← hm, dif_pos (all_rd HZ.out hml)]
      obtain ⟨fn, tmps, assign, body, hy, hR⟩ := HY.out _ (backG zs k) wr hj (by rw [backs_len]; exact hlt)
      rw [hg] at hy
      simp only [backV] at hy
      have HS := Aside0.mk (backs_succ zs k)
      have HRR := Aside0.mk hR
      have HBW := Aside0.mk hbw
      have HW0 := Aside0.mk hw0
      have HM := Aside0.mk hm
      clear hj hbw hw0 HI hg hR hm
      rw [hmi]
      gi_wp2
      refine HRR.out.mono ?_
      rintro e W3 (⟨rfl, hJ3, hk3⟩ | ⟨rfl, hJx3⟩)
      · have HJ3 := Aside0.mk hJ3
        have HK3 := Aside0.mk hk3
        clear hJ3 hk3
        gi_wp2
        go_roundw
        case rel => exact ⟨k + 1, by omega, by have := HM.out; congr 1; omega, ⟨by rw [HS.out]; exact HJ3.out, HBW.out.trans HK3.out.1, HK3.out.2 _ HW0.out⟩⟩
        case measure => simp [intOf]
      · gi_wp2
        refine bodyPost_ret (results_none rfl _ _ _) rfl ?_
        exact ⟨⟨_, rfl⟩, .inr ⟨_, trivial, hJx3⟩⟩
    · have hkl : k = zs.length := by omega
      have hmi : (zs.length : Int) - 1 - (k : Int) = -1 := by omega
      have HKL := Aside0.mk hkl
      have HJ := Aside0.mk hj
      clear hkl hj hbw hw0 HI
      rw [hmi]
      gi_wp2
      go_end0
      exact ⟨⟨_, rfl⟩, .inl ⟨_, rfl, by rw [← HKL.out]; exact HJ.out⟩⟩

theorem back_stops (n : Nat) (hn : 1 ≤ n) (B : Nat) (A : Option Addr) (c : Nat) (zs : List Int) (w w0 : World) (hr : Kd.C (Kd.int .u8) w A zs.length zs) (hz : zs.all elB = true)
    (hb : Below w.heap.size w w0) (hb0 : w0.heap[B]? = some (.cells #[.slice A zs.length c] 22 (0, 0))) :
    SeqStopsK Fence.wide n Tryd.prog 64 #[.pointer (some ⟨B, 0, none⟩)] backV (KpB w.heap.size B) (fun ys => ys = backs zs zs.length) (fun _ => True) zs.length w0 := by
  intro l J Jx W hW hJ hJx hY h0
  exact back_in n hn l B A c zs w J Jx hr hz W hY (below_then hb hb.size hW) (blk_below hb0 hW) h0

theorem back62 (A : Option Addr) (c n : Nat) (w : World) : Calls Tryd.prog 62 #[.slice A n c] w fun e w' => e = .returned (.func (.func 64) #[] #[.pointer (some ⟨w.heap.size, 0, none⟩)]) ∧ w' = w.alloc (.cells #[.slice A n c] 22) := by
  go_enter Tryd.func62, Tryd.ntmps62
  go_wp2
  go_ret
  exact ⟨rfl, rfl⟩

def bx (a b : Int) : Int := Go.bits .xor .u8 a b
/-- The value of a polynomial by Horner's rule, the last coefficient first. -/
def hornL (x : Int) : List Int → Int
  | [] => 0
  | a :: l => bx (mI (hornL x l) x) a
theorem bx_nat {a b : Nat} (ha : a < 256) (hb : b < 256) : bx (a : Int) (b : Int) = ((a ^^^ b : Nat) : Int) := by
  have ha' : a % 2 ^ IntKind.u8.bits = a := Nat.mod_eq_of_lt ha
  have hb' : b % 2 ^ IntKind.u8.bits = b := Nat.mod_eq_of_lt hb
  have hx : a ^^^ b < 256 := Nat.xor_lt_two_pow (n := 8) ha hb
  unfold bx
  simp only [bits, BitVec.ofInt_natCast, BitVec.toNat_xor, BitVec.toNat_ofNat, ha', hb']
  exact wraps_u8 _ (Int.natCast_nonneg _) (by exact_mod_cast hx)
theorem bx_el {a b : Int} (ha : elB a = true) (hb : elB b = true) : bx a b = ((a.toNat ^^^ b.toNat : Nat) : Int) := by
  rw [elB_iff] at ha hb
  have := bx_nat (a := a.toNat) (b := b.toNat) (by omega) (by omega)
  rwa [show ((a.toNat : Nat) : Int) = a by omega, show ((b.toNat : Nat) : Int) = b by omega] at this
theorem el_bx {a b : Int} (ha : elB a = true) (hb : elB b = true) : elB (bx a b) = true := by
  rw [bx_el ha hb]
  rw [elB_iff] at *
  have : a.toNat ^^^ b.toNat < 64 := xor_lt (by omega) (by omega)
  omega
theorem el_mI (a b : Int) : elB (mI a b) = true := by
  rw [elB_iff]
  have := ml_lt a.toNat b.toNat
  unfold mI
  omega
def valOf (x : Int) (pre : List BackEl) : Int := pre.foldl (fun out y => bx (mI out x) y.1.2) 0
theorem valOf_snoc (x : Int) (pre : List BackEl) (y : BackEl) : valOf x (pre ++ [y]) = bx (mI (valOf x pre) x) y.1.2 := by simp [valOf]
theorem valOf_el (x : Int) : ∀ (pre : List BackEl) (out : Int), elB out = true → elB (pre.foldl (fun out y => bx (mI out x) y.1.2) out) = true
  | [], _, h => h
  | y :: pre, out, _ => valOf_el x pre _ (el_bx (el_mI _ _) y.2)
theorem valOf_backs (x : Int) (l : List Int) (hl : l.all elB = true) : ∀ k, k ≤ l.length → valOf x (backs l k) = hornL x (l.drop (l.length - k))
  | 0, _ => by simp [backs, valOf, hornL]
  | k + 1, h => by
    have hm : l.length - 1 - k < l.length := by omega
    have hg : (backG l k).1.2 = rd l ((l.length - 1 - k : Nat) : Int) := by
      unfold backG
      rw [dif_pos (all_rd hl hm)]
    rw [backs_succ, valOf_snoc, valOf_backs x l hl k (by omega), hg, show l.length - (k + 1) = l.length - 1 - k by omega, List.drop_eq_getElem_cons hm, hornL, show l.length - 1 - k + 1 = l.length - k by omega]
    congr 1
    simp [rd, List.getD_eq_getElem?_getD, List.getElem?_eq_getElem hm]
def field_eval.f (l0 : List Int) (a1 : Int) : Option Int := if (l0.all elB && elB a1) = true then some (hornL a1 l0) else none

set_option maxHeartbeats 4000000 in
theorem field_eval.calls (A0 : Option Addr) (c0 : Nat) (l0 : List Int) (a1 : Int) (r : Int) (w : World) (hr0 : Kd.C (Kd.int .u8) w A0 l0.length l0) (hc0 : l0.length ≤ c0) (hT : Kd.C (Kd.int .u8) w (some ⟨0, 0, none⟩) 63 pwI) (h : field_eval.f l0 a1 = some r) :
    Calls Tryd.prog 55 #[.slice A0 l0.length c0, .int .u8 a1] w fun e w' => e = .returned (.int .u8 r) ∧ Below w.heap.size w w' := by
  have HR0 := Aside0.mk hr0
  have HT := Aside0.mk hT
  clear hr0 hT
  unfold field_eval.f at h
  split at h
  · rename_i hall
    simp only [Bool.and_eq_true] at hall
    obtain ⟨hl, hx⟩ := hall
    injection h with h
    have HL := Aside0.mk hl
    have HX := Aside0.mk hx
    have H := Aside0.mk h
    clear hl hx h
    refine callsIn_wide.1 (callsIn_of_wp_marks (n := 9) Tryd.func55 rfl trivial (wpIn_wide.2 ?_) rfl)
    simp only [Tryd.ntmps55, List.size_toArray, List.length_cons, List.length_nil, Nat.reduceAdd, Nat.reduceSub, Array.replicate_succ, Array.replicate_zero, List.push_toArray, List.append_toArray, List.nil_append, List.cons_append]
    go_wp2_with (go_at_call 62; refine (back62 _ _ _ _).mono ?_; rintro e w' ⟨rfl, rfl⟩)
    obtain ⟨W0, hW0⟩ : ∃ W0, ((w.alloc (.cells #[.int .u8 a1] 5)).alloc (.cells #[.int .u8 0] 5)).alloc (.cells #[.slice A0 l0.length c0] 22) = W0 := ⟨_, rfl⟩
    have hb0 : W0.heap[w.heap.size]? = some (.cells #[.int .u8 a1] 5 (0, 0)) := by rw [← hW0]; exact blk_alloc (blk_alloc (blk_new _ _) _) _
    have hb1 : W0.heap[w.heap.size + 1]? = some (.cells #[.int .u8 0] 5 (0, 0)) := by
      rw [← hW0]
      refine blk_alloc ?_ _
      have := blk_new (w.alloc (.cells #[.int .u8 a1] 5)) (.cells #[.int .u8 0] 5)
      rwa [World.size_alloc] at this
    have hb2 : W0.heap[w.heap.size + 1 + 1]? = some (.cells #[.slice A0 l0.length c0] 22 (0, 0)) := by
      rw [← hW0]
      have := blk_new ((w.alloc (.cells #[.int .u8 a1] 5)).alloc (.cells #[.int .u8 0] 5)) (.cells #[.slice A0 l0.length c0] 22)
      rwa [World.size_alloc, World.size_alloc] at this
    have hbw : Below w.heap.size w W0 := by rw [← hW0]; exact below_alloc (below_alloc (below_alloc (Below.refl _ _) _) _) _
    have hsz : W0.heap.size = w.heap.size + 3 := by rw [← hW0]; simp
    rw [hW0]
    clear hW0
    obtain ⟨g, hg⟩ : ∃ g, g = w.heap.size := ⟨_, rfl⟩
    rw [← hg] at hb0 hb1 hb2 ⊢
    have HG := Aside0.mk hg
    clear hg
    refine wpIn_wide.1 (wpIn_rangeFunc_ownF (α := BackEl) (n := 9) (w := W0) rfl (by omega) (gf := 64) (lb := #[.pointer (some ⟨g + 1 + 1, 0, none⟩)]) rfl trivial (enters_of Tryd.func64 (by kernel_rfl) rfl)
      (back_stops 8 (by omega) (g + 1 + 1) A0 c0 l0 w W0 HR0.out HL.out hbw hb2) (fun h k => KpB.trans h k) ?hKb (Below.refl _ _) (fun _ => rfl)
      (fun pre W => (W.heap[g]? = some (.cells #[.int .u8 a1] 5 (0, 0)) ∧ W.heap[g + 1]? = some (.cells #[.int .u8 (valOf a1 pre)] 5 (0, 0))) ∧ Below w.heap.size w W) (fun _ _ _ => False)
      ?hI (fun _ _ _ _ _ hs _ _ => hs) ⟨⟨hb0, hb1⟩, hbw⟩
      (fun x => { tmps := #[.slice A0 l0.length c0, .int .u8 a1, undef, .pointer (some ⟨g, 0, none⟩), .int .u8 0, .pointer (some ⟨g + 1, 0, none⟩), undef, .int .u8 x.1.2, .slice A0 l0.length c0, .func (.func 64) #[] #[.pointer (some ⟨g + 1 + 1, 0, none⟩)], .int .i64 x.1.1, .int .u8 x.1.2, undef, undef, undef, undef, undef, undef], defers := [] }) ?assign ?body ?done ?stop)
    case hKb =>
      intro W l o o' hl ho hoc _
      have hg := HG.out
      refine ⟨belowK_b (w := W0) (by omega) W l o o' hl ho hoc (by assumption), fun o1 hi => ?_⟩
      refine ((grownBy_putObj' W l o').block _ (blk_lt hi) (fun e => ?_)).trans hi
      have e1 : g + 1 + 1 = l := by simpa using e
      omega
    case hI =>
      intro s X Y row ⟨⟨h1, h2⟩, h3⟩ hgr hr
      have ne : ∀ (i : Nat) (o : Obj), X.heap[i]? = some o → o.isCells = true → some i ≠ row := fun i o ho hc e => by
        obtain ⟨_, o', ho', hc'⟩ := hr i e.symm
        rw [ho] at ho'
        cases ho'
        rw [hc] at hc'
        cases hc'
      exact ⟨⟨blk_grown h1 hgr (ne _ _ h1 rfl), blk_grown h2 hgr (ne _ _ h2 rfl)⟩, h3.grown hgr h3.size (fun k e => by have := (hr k e).1; omega)⟩
    case assign =>
      intro l x W K hK
      simp only [backV]
      gi_wp2
      exact hK
    case body =>
      rintro l pre x W ⟨⟨h1, h2⟩, h3⟩ _
      have q1 : W.cell? ⟨g, 0, none⟩ = some (.int .u8 a1) := (blk_cell h1 0).trans rfl
      have q2 : W.cell? ⟨g + 1, 0, none⟩ = some (.int .u8 (valOf a1 pre)) := (blk_cell h2 0).trans rfl
      have qf := blk_frozen h2 0
      have HM := Aside0.mk (mul_mI (show elB (valOf a1 pre) = true from valOf_el a1 pre 0 (by decide)) HX.out)
      have HS := Aside0.mk (valOf_snoc a1 pre x)
      have H1 := Aside0.mk h1
      have H2 := Aside0.mk h2
      have H3 := Aside0.mk h3
      have HTW := Aside0.mk (Kd.C_below HT.out h3)
      clear h1 h2 h3
      gi_wp2_with (refine ⟨trivial, ?_⟩; gi_at_call 53; refine (CallsIn.inRound l (callsIn_wide.2 (field_mul.calls (valOf a1 pre) a1 _ _ HTW.out HM.out))).mono ?_; rintro e w' ⟨rfl, hd⟩; obtain ⟨nd, rfl⟩ := hd)
      have hg := HG.out
      have hd : Below w.heap.size W (W.drewN nd) := (Drawn0.mk ⟨nd, rfl⟩ : Drawn0 W (W.drewN nd)).below.mono H3.out.size
      have hs : Below w.heap.size W ((W.drewN nd).setCell ⟨g + 1, 0, none⟩ (.int .u8 (bx (mI (valOf a1 pre) a1) x.1.2))) := hd.setCell (by simp only; omega) _
      refine ⟨(KeepsOthers.of_grownBy (grown_of_below (Drawn0.mk ⟨nd, rfl⟩ : Drawn0 W (W.drewN nd)).below none) (fun _ _ e => by cases e)).trans (KeepsOthers.setCell _ _ _), ⟨hs, fun o ho => ?_⟩, ⟨blk_far (blk_drewN H1.out _) (by simp only; omega) _, ?_⟩, H3.out.trans hs⟩
      · exact (Below.heap_setCell _ _ _ _ (by simp only; omega)).trans (blk_drewN ho nd)
      · rw [HS.out]
        exact blk_put (blk_drewN H2.out nd) 0 _ rfl
    case done =>
      rintro D ys W hD hys ⟨⟨h1, h2⟩, hB⟩ hK
      have hv : valOf a1 ys = r := by rw [hys, valOf_backs a1 l0 HL.out _ (Nat.le_refl _), Nat.sub_self, List.drop_zero]; exact H.out
      rw [hv] at h2
      have q2 : W.cell? ⟨g + 1, 0, none⟩ = some (.int .u8 r) := (blk_cell h2 0).trans rfl
      clear hys hv
      go_wp2
      refine ⟨by simp, .inl ⟨_, _, rfl, run_takeDeferred hK, ?_⟩⟩
      exact ⟨_, results_tmp rfl _ _ _, rfl, hB.trans (belowK_b (w := W0) (by omega) W D _ _ hD hK rfl rfl)⟩
    case stop =>
      rintro D c pre W _ _ h _
      exact h.elim
  · cases h
end Go.Proofs.YtehgfpfmpkmdmaaDoor.Print
