-- Gkk, Gpod, Print29, Fi, Print32, Print33, Fr, Fd, Print35, Fx, Fu (what this claim uses of them)
import Derived.Test.YtehgfpfmpkmdmaaDoorYp35
import Derived.Test.YtehgfpfmpkmdmaaDoorYp34
import Derived.Test.YtehgfpfmpkmdmaaDoorYp22
import Derived.Test.YtehgfpfmpkmdmaaDoorYp23
import Derived.Test.YtehgfpfmpkmdmaaDoorYp25
import Derived.Test.YtehgfpfmpkmdmaaDoorYp26
import Derived.Test.YtehgfpfmpkmdmaaDoorYp27
import Derived.Test.YtehgfpfmpkmdmaaDoorYp29
import Derived.Test.YtehgfpfmpkmdmaaDoorYp33
import Derived.Test.YtehgfpfmpkmdmaaDoorYp30
import Derived.Test.YtehgfpfmpkmdmaaDoorYp28
import Derived.Test.YtehgfpfmpkmdmaaDoorYp24
namespace Go.Proofs.YtehgfpfmpkmdmaaDoor.Print
open Go.RowKit Go.Proofs.YtehgfpfmpkmdmaaDoorW.PrintWords Go.Proofs.YtehgfpfmpkmdmaaDoorW.PrintLast Go.Proofs.YtehgfpfmpkmdmaaDoorW.PrintMore
theorem map_get (f : Nat → Int) (n i : Nat) (h : i < n) : ((List.range n).map f).getD i 0 = f i := by
  simp [List.getD_eq_getElem?_getD, List.getElem?_range h]
theorem mks_get (n i : Nat) (h : i < n) : (mks n).getD i 0 = mk1 (i : Int) := map_get (fun i : Nat => mk1 (i : Int)) n i h
theorem rd_left (l r : List Int) (j : Nat) (c : j < l.length) : rd (l ++ r) (j : Int) = rd l (j : Int) := by
  simp [rd, List.getD_eq_getElem?_getD, List.getElem?_append_left c]
theorem rd_right (l r : List Int) (j : Nat) (c : l.length ≤ j) : rd (l ++ r) (j : Int) = r.getD (j - l.length) 0 := by
  simp [rd, List.getD_eq_getElem?_getD, List.getElem?_append_right c]
theorem kept_loop (l : List Int) (hl : l.length ≤ 1000) : ∀ m j : Nat, j + m = (l ++ mks 12).length → letterbagkit_KeptBytes.l0 (m + 1) l (l ++ mks 12) (j : Int) = some true := by
  have hlen : (l ++ mks 12).length = l.length + 12 := by rw [List.length_append, mks_len]
  intro m
  induction m with
  | zero =>
    intro j hj
    unfold letterbagkit_KeptBytes.l0
    rw [if_neg (by omega)]
  | succ m ih =>
    intro j hj
    have hw : wrap64 ((j : Int) + 1) = ((j + 1 : Nat) : Int) := by simp only [wrap64]; omega
    unfold letterbagkit_KeptBytes.l0
    rw [if_pos (show (j : Int) < ((l ++ mks 12).length : Int) by omega)]
    by_cases c : j < l.length
    · have hrd : rd (l ++ mks 12) (j : Int) = rd l (j : Int) := by
        exact rd_left l (mks 12) j c
      rw [if_pos (show (j : Int) < (l.length : Int) by omega), if_pos (show (0 : Int) ≤ (j : Int) by omega), if_pos hrd, if_neg (show ¬ ((j : Int) ≥ (l.length : Int)) by omega), hw]
      exact ih (j + 1) (by omega)
    · have hw2 : wrap64 ((j : Int) - (l.length : Int)) = ((j - l.length : Nat) : Int) := by simp only [wrap64]; omega
      have hrd : rd (l ++ mks 12) (j : Int) = mk1 ((j - l.length : Nat) : Int) := by
        rw [← mks_get 12 (j - l.length) (by omega)]
        exact rd_right l (mks 12) j (by omega)
      rw [if_neg (show ¬ ((j : Int) < (l.length : Int)) by omega), if_pos (show (j : Int) ≥ (l.length : Int) by omega), if_pos (show (0 : Int) ≤ (j : Int) by omega), hw2, mk1_f]
      simp only [Option.bind_some]
      rw [if_pos hrd, hw]
      exact ih (j + 1) (by omega)
def letterbagkit_KeptBytes.f (l0 l1 : List Int) : Option Bool := if l0 = l1 ∧ l0.length ≤ 1000 then some true else none
theorem letterbagkit_KeptBytes.calls (A0 : Option Addr) (c0 : Nat) (l0 : List Int) (A1 : Option Addr) (c1 : Nat) (l1 : List Int) (r : Bool) (w : World) (hL : Lent w (.slice A0 l0.length c0) l0) (hr1 : Kd.C (Kd.int .u8) w A1 l1.length l1) (hc1 : l1.length ≤ c1) (h : letterbagkit_KeptBytes.f l0 l1 = some r) :
    Calls Tryd.prog 18 #[.slice A0 l0.length c0, .slice A1 l1.length c1] w fun e w' => e = .returned (.bool r) ∧ Below w.heap.size w w' := by
  unfold letterbagkit_KeptBytes.f at h
  split at h
  · rename_i hh
    obtain ⟨rfl, hl⟩ := hh
    injection h with h
    subst h
    obtain ⟨A, c, e, h1, h2⟩ := hL
    injection e with e1 e2 e3
    subst e1 e3
    exact letterbagkit_KeptBytes.callsK ((l0 ++ mks 12).length + 1) A0 c0 l0 (l0 ++ mks 12) A1 c1 l0 w (by rw [List.length_append, mks_len]) h1 h2 hr1 hc1 hl rfl (kept_loop l0 hl _ 0 (by omega))
  · cases h
end Go.Proofs.YtehgfpfmpkmdmaaDoor.Print

namespace Go.Proofs.YtehgfpfmpkmdmaaDoor.Print
open Go.RowKit Go.Proofs.YtehgfpfmpkmdmaaDoorW.PrintWords Go.Proofs.YtehgfpfmpkmdmaaDoorW.PrintLast Go.Proofs.YtehgfpfmpkmdmaaDoorW.PrintMore
attribute [local go_sem] max2_int min2_int max_two min_two max_three min_three max_four min_four   -- for this text's walks alone
set_option linter.unusedVariables false
set_option linter.unusedSimpArgs false
mutual
def letterbaglaw18_FieldPolys.j0 : Nat → List Int → List Int → Bool → Option (Bool)
  | 0, _, _, _ => none
  | k + 1, x0, x1, x30 => if x30 = true then ((letterbaglaw18_awake.f).bind fun t293 => (some t293)) else ((letterbagkit_LentBytes.f x0).bind fun t294 => ((letterbagkit_LentBytes.f x1).bind fun t297 => ((field_Trim.f k t294).bind fun bt300 => ((field_Degree.f k t294).bind fun bt304 => ((field_Sum.f t294 t297).bind fun bt306 => ((field_Product.f t294 t297).bind fun bt310 => ((field_Divide.f k t294 t297).bind fun bt314 => ((letterbagkit_KeptBytes.f t294 x0).bind fun t321 => (if t321 = true then ((letterbagkit_KeptBytes.f t297 x1).bind fun t322 => (letterbaglaw18_FieldPolys.j1 k x0 x1 t294 t297 bt300.1 bt300.2 bt304.1 bt304.2 bt306.1 bt306.2 bt310.1 bt310.2 bt314.1 bt314.2.1 bt314.2.2 (!t322))) else (letterbaglaw18_FieldPolys.j1 k x0 x1 t294 t297 bt300.1 bt300.2 bt304.1 bt304.2 bt306.1 bt306.2 bt310.1 bt310.2 bt314.1 bt314.2.1 bt314.2.2 true))))))))))
def letterbaglaw18_FieldPolys.j1 : Nat → List Int → List Int → List Int → List Int → List Int → Int → Int → Int → List Int → Int → List Int → Int → List Int → List Int → Int → Bool → Option (Bool)
  | 0, _, _, _, _, _, _, _, _, _, _, _, _, _, _, _, _ => none
  | k + 1, x0, x1, x5, x6, x7, x8, x9, x10, x11, x12, x13, x14, x15, x16, x17, x74 => if x74 = true then (some false) else ((letterbagkit_OverBytes.f x5).bind fun _ => ((letterbagkit_OverBytes.f x6).bind fun _ => ((letterbagref18_Error.f k x0 ([] : List Int)).bind fun t323 => ((letterbagref18_Error.f k x0 x1).bind fun t324 => (if x8 = t323 then (if x10 = x8 then (letterbaglaw18_FieldPolys.j2 k x0 x1 x7 x9 x11 x13 x14 x15 x16 x17 t323 t324 (x12 != t324)) else (letterbaglaw18_FieldPolys.j2 k x0 x1 x7 x9 x11 x13 x14 x15 x16 x17 t323 t324 true)) else (letterbaglaw18_FieldPolys.j2 k x0 x1 x7 x9 x11 x13 x14 x15 x16 x17 t323 t324 true))))))
def letterbaglaw18_FieldPolys.j2 : Nat → List Int → List Int → List Int → Int → List Int → List Int → Int → List Int → List Int → Int → Int → Int → Bool → Option (Bool)
  | 0, _, _, _, _, _, _, _, _, _, _, _, _, _ => none
  | k + 1, x0, x1, x7, x9, x11, x13, x14, x15, x16, x17, x18, x19, x96 => if x96 = true then (some false) else (if x18 = 0 then ((letterbagref18_Trim.f k x0).bind fun t325 => ((letterbagkit_SameBytes.f k x7 t325).bind fun t328 => (if t328 = true then ((letterbagref18_Degree.f k x0).bind fun t329 => (if x9 = t329 then (letterbaglaw18_FieldPolys.j3 k x0 x1 x11 x13 x14 x15 x16 x17 x19) else (some false))) else (some false)))) else (if (x7.length : Int) = 0 then (if x9 = 0 then (letterbaglaw18_FieldPolys.j3 k x0 x1 x11 x13 x14 x15 x16 x17 x19) else (some false)) else (some false)))
def letterbaglaw18_FieldPolys.j3 : Nat → List Int → List Int → List Int → List Int → Int → List Int → List Int → Int → Int → Option (Bool)
  | 0, _, _, _, _, _, _, _, _, _ => none
  | k + 1, x0, x1, x11, x13, x14, x15, x16, x17, x19 => if x19 = 0 then ((letterbagref18_Sum.f k x0 x1).bind fun t331 => ((letterbagkit_SameBytes.f k x11 t331).bind fun t334 => (if t334 = true then ((letterbagref18_Product.f k x0 x1).bind fun t335 => (if (t335.length : Int) > 128 then (if x14 = 5 then (if (x13.length : Int) = 0 then (letterbaglaw18_FieldPolys.j4 k x0 x1 x15 x16 x17) else (some false)) else (some false)) else (if x14 = 0 then ((letterbagkit_SameBytes.f k x13 t335).bind fun t338 => (if t338 = true then (letterbaglaw18_FieldPolys.j4 k x0 x1 x15 x16 x17) else (some false))) else (some false)))) else (some false)))) else (if x14 = x19 then (if x17 = x19 then (if (wrap64 ((wrap64 ((wrap64 ((x11.length : Int) + (x13.length : Int))) + (x15.length : Int))) + (x16.length : Int))) = 0 then ((letterbaglaw18_awake.f).bind fun t330 => (some t330)) else (some false)) else (some false)) else (some false))
def letterbaglaw18_FieldPolys.j4 : Nat → List Int → List Int → List Int → List Int → Int → Option (Bool)
  | 0, _, _, _, _, _ => none
  | k + 1, x0, x1, x15, x16, x17 => (letterbagref18_Degree.f k x1).bind fun t339 => (if t339 < 0 then (if x17 = 6 then (if (wrap64 ((x15.length : Int) + (x16.length : Int))) = 0 then ((letterbaglaw18_awake.f).bind fun t340 => (some t340)) else (some false)) else (some false)) else ((letterbagref18_Divide.f k x0 x1).bind fun bt341 => (if x17 = 0 then ((letterbagkit_SameBytes.f k x15 bt341.1).bind fun t347 => (if t347 = true then ((letterbagkit_SameBytes.f k x16 bt341.2).bind fun t348 => (if t348 = true then ((letterbaglaw18_awake.f).bind fun t349 => (some t349)) else (some false))) else (some false))) else (some false))))
end
def letterbaglaw18_FieldPolys.f (k : Nat) (l0 : List Int) (l1 : List Int) : Option (Bool) := if (l0.length : Int) > 200 then (letterbaglaw18_FieldPolys.j0 k l0 l1 true) else (letterbaglaw18_FieldPolys.j0 k l0 l1 (decide ((l1.length : Int) > 200)))
/-- THE ONE PURE STATEMENT of letterbaglaw18_FieldPolys: yours. -/
def letterbaglaw18_FieldPolys.Pure : Prop := ∀ (l0 : List Int) (l1 : List Int), l0.length ≤ maxLen → l0.length * 1 ≤ 140737488351232 → (∀ x ∈ l0, (Lit.int .u8 x).wf = true) → l1.length ≤ maxLen → l1.length * 1 ≤ 140737488351232 → (∀ x ∈ l1, (Lit.int .u8 x).wf = true) → ∃ k, letterbaglaw18_FieldPolys.f k l0 l1 = some true
end Go.Proofs.YtehgfpfmpkmdmaaDoor.Print

namespace Go.Proofs.YtehgfpfmpkmdmaaDoor.Print
open Go.RowKit Go.Proofs.YtehgfpfmpkmdmaaDoorW.PrintWords Go.Proofs.YtehgfpfmpkmdmaaDoorW.PrintLast Go.Proofs.YtehgfpfmpkmdmaaDoorW.PrintMore
attribute [local go_sem] max2_int min2_int max_two min_two max_three min_three max_four min_four   -- for this text's walks alone
set_option linter.unusedVariables false
set_option linter.unusedSimpArgs false
end Go.Proofs.YtehgfpfmpkmdmaaDoor.Print

namespace Go.Proofs.YtehgfpfmpkmdmaaDoor.Print
open Go.RowKit Go.Proofs.YtehgfpfmpkmdmaaDoorW.PrintWords Go.Proofs.YtehgfpfmpkmdmaaDoorW.PrintLast Go.Proofs.YtehgfpfmpkmdmaaDoorW.PrintMore
open Go.Proofs.YtehgfpfmpkmdmaaDoor.Gf
def toF (x : Int) : F := ⟨x.toNat % 64, Nat.mod_lt _ (by decide)⟩
def ofF (a : F) : Int := (a.v : Int)
def IL (p : Poly) : List Int := p.map ofF
theorem toF_ofF (a : F) : toF (ofF a) = a := F.ext (by
  have := a.h
  simp only [toF, ofF]
  omega)
theorem ofF_inj {a b : F} (h : ofF a = ofF b) : a = b := by rw [← toF_ofF a, h, toF_ofF]
theorem ofF_toF {x : Int} (h : elB x = true) : ofF (toF x) = x := by
  rw [elB_iff] at h
  simp only [toF, ofF]
  omega
theorem el_ofF (a : F) : elB (ofF a) = true := by
  have := a.h
  rw [elB_iff]
  unfold ofF
  omega
theorem ofF_zero : ofF 0 = 0 := rfl
theorem ofF_one : ofF 1 = 1 := rfl
theorem ofF_eq_zero {a : F} : ofF a = 0 ↔ a = 0 := ⟨fun h => ofF_inj (h.trans ofF_zero.symm), fun h => by rw [h]; rfl⟩
theorem IL_of {l : List Int} (h : l.all elB = true) : ∃ p : Poly, l = IL p ∧ p.length = l.length := by
  refine ⟨l.map toF, ?_, by simp⟩
  unfold IL
  rw [List.map_map]
  refine (List.map_id l).symm.trans (List.map_congr_left fun x hx => ?_)
  exact (ofF_toF (List.all_eq_true.1 h x hx)).symm
theorem IL_len (p : Poly) : (IL p).length = p.length := by simp [IL]
theorem IL_all (p : Poly) : (IL p).all elB = true := by
  rw [List.all_eq_true]
  intro x hx
  obtain ⟨a, _, rfl⟩ := List.mem_map.1 hx
  exact el_ofF a
theorem rd_IL (p : Poly) (i : Int) : rd (IL p) i = ofF (cf p i.toNat) := by
  simp only [rd, IL, cf, List.getD_eq_getElem?_getD, List.getElem?_map]
  cases p[i.toNat]? <;> rfl
theorem rd_ILn (p : Poly) (i : Nat) : rd (IL p) (i : Int) = ofF (cf p i) := by rw [rd_IL, Int.toNat_natCast]
theorem IL_take (p : Poly) (n : Nat) : (IL p).take n = IL (p.take n) := by simp [IL]
theorem IL_set (p : Poly) (n : Nat) (a : F) : (IL p).set n (ofF a) = IL (p.set n a) := by simp [IL, List.map_set]
theorem mI_ofF (a b : F) : mI (ofF a) (ofF b) = ofF (a * b) := by
  unfold mI ofF
  rw [mul_v]
  simp
theorem bx_ofF (a b : F) : Go.bits .xor .u8 (ofF a) (ofF b) = ofF (a + b) := by
  have := bx_el (el_ofF a) (el_ofF b)
  unfold bx at this
  rw [this]
  unfold ofF
  rw [add_v]
  simp
theorem mul_ofF (a b : F) : field_mul.f (ofF a) (ofF b) = some (ofF (a * b)) := by rw [mul_mI (el_ofF a) (el_ofF b), mI_ofF]
theorem inv_ofF {a : F} (h : a ≠ 0) : field_inv.f (ofF a) = some (ofF (Gf.inv a)) := by
  unfold field_inv.f
  have h1 := a.h
  have h2 := ne_v h
  rw [if_pos (by rw [unitB_iff]; unfold ofF; omega)]
  simp [ofF, Gf.inv]
theorem w64 {x : Int} (h0 : -1000000000000 ≤ x) (h1 : x ≤ 1000000000000) : wrap64 x = x := by unfold wrap64; omega
theorem bad_IL (p : Poly) : (IL p).any badEl = false := by
  rw [List.any_eq_false]
  intro x hx
  have := List.all_eq_true.1 (IL_all p) x hx
  rw [elB_iff] at this
  simp [badEl]
  omega
theorem check_one (p : Poly) (h : p.length ≤ 128) : field_check.f [IL p] = some 0 := by
  unfold field_check.f
  simp [longL, IL_len, bad_IL]
  omega
theorem check_two (p q : Poly) (h : p.length ≤ 128) (h' : q.length ≤ 128) : field_check.f [IL p, IL q] = some 0 := by
  unfold field_check.f
  simp [longL, IL_len, bad_IL]
  omega
theorem clone_f (l : List Int) (h : l.length ≤ 100000) : slices_Clone_uint8_uint8.f l = some l := by
  unfold slices_Clone_uint8_uint8.f
  rw [if_pos (by omega)]
theorem take_tr {p : Poly} {n : Nat} (hz : ∀ i, n + 1 ≤ i → cf p i = 0) (h0 : cf p n ≠ 0) : p.take (n + 1) = tr p := by
  have hn : n < p.length := by
    rcases Nat.lt_or_ge n p.length with h | h
    · exact h
    · exact absurd (cf_ge h) h0
  refine tr_eq_of (fun i => ?_) (.inr ?_)
  · rcases Nat.lt_or_ge i (n + 1) with h | h
    · simp only [cf, List.getD_eq_getElem?_getD, List.getElem?_take]
      rw [if_pos h]
    · rw [hz i h, cf_ge (by rw [List.length_take]; omega)]
  · have hl : (p.take (n + 1)).length - 1 = n := by rw [List.length_take]; omega
    rw [hl]
    have : cf (p.take (n + 1)) n = cf p n := by
      simp only [cf, List.getD_eq_getElem?_getD, List.getElem?_take]
      rw [if_pos (by omega)]
    rw [this]
    exact h0
theorem trim_l (p : Poly) (hp : p.length ≤ 100000) : ∀ (n k : Nat), n ≤ p.length → (∀ i, n ≤ i → cf p i = 0) → n < k → field_trim.l0 k (IL p) (n : Int) = some (IL (tr p))
  | 0, k, _, hz, hk => by
    obtain ⟨k, rfl⟩ : ∃ m, k = m + 1 := ⟨k - 1, by omega⟩
    rw [field_trim.l0, if_neg (by omega), if_pos (by omega), if_pos (by omega)]
    have : tr p = [] := tr_nil_of (fun i => hz i (by omega))
    rw [this]
    rfl
  | n + 1, k, hn, hz, hk => by
    obtain ⟨k, rfl⟩ : ∃ m, k = m + 1 := ⟨k - 1, by omega⟩
    have hw : wrap64 (((n + 1 : Nat) : Int) - 1) = (n : Int) := by rw [w64 (by omega) (by omega)]; omega
    rw [field_trim.l0, if_pos (by omega), hw, if_pos (by omega), if_pos (by rw [IL_len]; omega), rd_ILn]
    by_cases h0 : cf p n = 0
    · rw [if_pos (by rw [h0]; rfl)]
      exact trim_l p hp n k (by omega) (fun i hi => by
        rcases Nat.lt_or_ge n i with h | h
        · exact hz i (by omega)
        · rw [show i = n by omega]; exact h0) (by omega)
    · rw [if_neg (fun h => h0 (ofF_eq_zero.1 h)), if_pos (by omega), if_pos (by rw [IL_len]; omega), Int.toNat_natCast, clone_f _ (by rw [List.length_take, IL_len]; omega), Option.bind_some, IL_take, take_tr hz h0]
theorem trim_f (p : Poly) (hp : p.length ≤ 100000) (k : Nat) (hk : p.length < k) : field_trim.f k (IL p) = some (IL (tr p)) := by
  unfold field_trim.f
  rw [IL_len]
  exact trim_l p hp p.length k (Nat.le_refl _) (fun i hi => cf_ge hi) hk
theorem cf_set (o : Poly) (n : Nat) (a : F) (i : Nat) (hn : n < o.length) : cf (o.set n a) i = if i = n then a else cf o i := by
  simp only [cf, List.getD_eq_getElem?_getD, List.getElem?_set]
  by_cases h : n = i
  · subst h
    simp [hn]
  · rw [if_neg h, if_neg (fun e => h e.symm)]
theorem sum_l (p q : Poly) (hp : p.length ≤ 100000) (hq : q.length ≤ p.length) : ∀ (d i k : Nat) (o : Poly), i + d = q.length → o.length = p.length → (∀ j, cf o j = cf p j + if j < i then cf q j else 0) → d + p.length + 1 < k → field_sumK.l0 k (IL o) (IL q) (q.length : Int) (i : Int) = some (IL (tr (addP p q)))
  | 0, i, k, o, hd, hl, hc, hk => by
    obtain ⟨k, rfl⟩ : ∃ m, k = m + 1 := ⟨k - 1, by omega⟩
    rw [field_sumK.l0, if_neg (by omega), trim_f o (by omega) k (by omega), Option.bind_some]
    congr 2
    refine tr_canon fun j => ?_
    rw [hc j, cf_add]
    by_cases h : j < i
    · rw [if_pos h]
    · rw [if_neg h, cf_ge (p := q) (by omega)]
  | d + 1, i, k, o, hd, hl, hc, hk => by
    obtain ⟨k, rfl⟩ : ∃ m, k = m + 1 := ⟨k - 1, by omega⟩
    rw [field_sumK.l0, if_pos (by omega), if_pos (by omega), if_pos (by rw [IL_len]; omega), if_pos (by rw [IL_len]; omega), rd_ILn, rd_ILn, bx_ofF, Int.toNat_natCast, IL_set, w64 (by omega) (by omega)]
    refine sum_l p q hp hq d (i + 1) k _ (by omega) (by rw [List.length_set]; exact hl) (fun j => ?_) (by omega)
    rw [cf_set _ _ _ _ (by omega)]
    by_cases hj : j = i
    · subst hj
      rw [if_pos rfl, if_pos (by omega), hc j, if_neg (by omega), add_zero]
    · rw [if_neg hj, hc j]
      by_cases h : j < i
      · rw [if_pos h, if_pos (by omega)]
      · rw [if_neg h, if_neg (by omega)]
theorem add_comm_eqv (p q : Poly) : Eqv (addP p q) (addP q p) := fun i => by rw [cf_add, cf_add, add_comm]
theorem sumK_f (p q : Poly) (hp : p.length ≤ 100000) (hq : q.length ≤ p.length) (k : Nat) (hk : q.length + p.length + 1 < k) : field_sumK.f k (IL p) (IL q) = some (IL (tr (addP p q))) := by
  unfold field_sumK.f
  rw [clone_f _ (by rw [IL_len]; exact hp), Option.bind_some, IL_len]
  exact sum_l p q hp hq q.length 0 k p (by omega) rfl (fun j => by rw [if_neg (by omega), add_zero]) (by omega)
theorem sum_f (p q : Poly) (hp : p.length ≤ 100000) (hq : q.length ≤ 100000) : field_sum.f (IL p) (IL q) = some (IL (tr (addP p q))) := by
  unfold field_sum.f
  rw [IL_len, IL_len]
  split
  · rw [sumK_f q p hq (by omega) _ (by omega), tr_canon (add_comm_eqv q p)]
  · exact sumK_f p q hp (by omega) _ (by omega)
def addAtP (o : Poly) (n : Nat) (v : F) : Poly := o.set n (cf o n + v)
def mulRowP (i : Nat) (a : F) : Nat → Poly → Poly → Poly
  | _, [], o => o
  | j, b :: q, o => mulRowP i a (j + 1) q (addAtP o (i + j) (a * b))
def prodRowsP : Nat → Poly → Poly → Poly → Poly
  | _, [], _, o => o
  | i, a :: p, q, o => prodRowsP (i + 1) p q (mulRowP i a 0 q o)
theorem addAt_IL (o : Poly) (n : Nat) (v : F) : addAt (IL o) (n : Int) (ofF v) = IL (addAtP o n v) := by
  unfold addAt addAtP
  rw [rd_ILn, bx_ofF, Int.toNat_natCast, IL_set]
theorem mulRow_IL (i : Nat) (a : F) : ∀ (q o : Poly) (j : Nat), mulRow i (ofF a) j (IL q) (IL o) = IL (mulRowP i a j q o)
  | [], _, _ => rfl
  | b :: q, o, j => by
    rw [show IL (b :: q) = ofF b :: IL q from rfl, mulRow, mI_ofF, addAt_IL, mulRow_IL i a q, mulRowP]
theorem prodRows_IL : ∀ (p q o : Poly) (i : Nat), prodRows i (IL p) (IL q) (IL o) = IL (prodRowsP i p q o)
  | [], _, _, _ => rfl
  | a :: p, q, o, i => by
    rw [show IL (a :: p) = ofF a :: IL p from rfl, prodRows, mulRow_IL, prodRows_IL p q, prodRowsP]
theorem addAtP_len (o : Poly) (n : Nat) (v : F) : (addAtP o n v).length = o.length := by simp [addAtP]
theorem mulRowP_len (i : Nat) (a : F) : ∀ (q o : Poly) (j : Nat), (mulRowP i a j q o).length = o.length
  | [], _, _ => rfl
  | b :: q, o, j => by rw [mulRowP, mulRowP_len i a q, addAtP_len]
theorem prodRowsP_len : ∀ (p q o : Poly) (i : Nat), (prodRowsP i p q o).length = o.length
  | [], _, _, _ => rfl
  | a :: p, q, o, i => by rw [prodRowsP, prodRowsP_len p q, mulRowP_len]
theorem cf_addAtP (o : Poly) (n : Nat) (v : F) (i : Nat) (hn : n < o.length) : cf (addAtP o n v) i = if i = n then cf o i + v else cf o i := by
  unfold addAtP
  rw [cf_set _ _ _ _ hn]
  by_cases h : i = n
  · subst h; simp
  · rw [if_neg h, if_neg h]
theorem cf_mulRowP (i : Nat) (a : F) : ∀ (q o : Poly) (j n : Nat), i + j + q.length ≤ o.length → cf (mulRowP i a j q o) n = cf o n + if i + j ≤ n then a * cf q (n - (i + j)) else 0
  | [], o, j, n, _ => by
    rw [mulRowP, cf_nil, mul_zero]
    split <;> rw [add_zero]
  | b :: q, o, j, n, h => by
    rw [List.length_cons] at h
    rw [mulRowP, cf_mulRowP i a q _ (j + 1) n (by rw [addAtP_len]; omega), cf_addAtP _ _ _ _ (by omega)]
    rcases Nat.lt_trichotomy n (i + j) with h1 | h1 | h1
    · rw [if_neg (by omega), if_neg (by omega), if_neg (by omega)]
    · rw [if_pos h1, if_neg (by omega), if_pos (by omega), add_zero, h1, Nat.sub_self, cf_zero]
    · rw [if_neg (by omega), if_pos (by omega), if_pos (by omega), show n - (i + j) = n - (i + (j + 1)) + 1 by omega, cf_succ]
theorem cf_prodRowsP : ∀ (p q o : Poly) (i n : Nat), i + p.length + q.length ≤ o.length + 1 → cf (prodRowsP i p q o) n = cf o n + if i ≤ n then cf (mulP p q) (n - i) else 0
  | [], q, o, i, n, _ => by
    rw [prodRowsP, mulP, cf_nil]
    split <;> rw [add_zero]
  | a :: p, q, o, i, n, h => by
    rw [List.length_cons] at h
    rw [prodRowsP, cf_prodRowsP p q _ (i + 1) n (by rw [mulRowP_len]; omega), cf_mulRowP _ _ _ _ _ _ (by omega), add_assoc, Nat.add_zero]
    congr 1
    rcases Nat.lt_trichotomy n i with h1 | h1 | h1
    · rw [if_neg (by omega), if_neg (by omega), if_neg (by omega), add_zero]
    · subst h1
      rw [if_pos (by omega), if_neg (by omega), if_pos (by omega), Nat.sub_self, mulP, cf_add, cf_smul, cf_zero]
    · rw [if_pos (by omega), if_pos (by omega), if_pos (by omega), mulP, cf_add, cf_smul, show n - i = n - (i + 1) + 1 by omega, cf_succ]
theorem cf_rep (n i : Nat) : cf (List.replicate n (0 : F)) i = 0 := by
  simp only [cf, List.getD_eq_getElem?_getD, List.getElem?_replicate]
  split <;> rfl
theorem prod_eqv (p q : Poly) : Eqv (prodRowsP 0 p q (List.replicate (p.length + q.length - 1) 0)) (mulP p q) := fun n => by
  rcases Nat.eq_zero_or_pos (p.length + q.length) with h | h
  · obtain rfl : p = [] := List.eq_nil_of_length_eq_zero (by omega)
    rw [prodRowsP, cf_rep, mulP, cf_nil]
  · rw [cf_prodRowsP _ _ _ _ _ (by rw [List.length_replicate]; omega), cf_rep, zero_add, if_pos (by omega), Nat.sub_zero]
theorem tr_len_eq {p : Poly} (h : dg p = p.length) : tr p = p := by
  refine tr_id ?_
  rcases Nat.eq_zero_or_pos p.length with h0 | h0
  · exact .inl (List.eq_nil_of_length_eq_zero h0)
  · exact .inr (by rw [← h]; exact dg_top (by omega))
theorem dg_tr (p : Poly) : dg (tr p) = dg p := dg_eqv (tr_eqv p)
theorem product_f (p q : Poly) (hp : p.length ≤ 100000) (hq : q.length ≤ 100000) : field_product.f (IL p) (IL q) = some (IL (tr (mulP p q))) := by
  unfold field_product.f
  rw [trim_f p hp _ (by rw [IL_len]; omega), Option.bind_some, trim_f q hq _ (by rw [IL_len]; omega), Option.bind_some, IL_len, IL_len]
  by_cases h0 : (tr p).length = 0
  · rw [if_pos h0, tr_nil_of (mul_nil (.inl (dg_zero h0)))]
    rfl
  · rw [if_neg h0]
    by_cases h1 : (tr q).length = 0
    · rw [if_pos h1, tr_nil_of (mul_nil (.inr (dg_zero h1)))]
      rfl
    · have l0 := tr_len p
      have l1 := tr_len q
      rw [if_neg h1, if_pos (by simp only [IL_all, Bool.true_and, Bool.and_eq_true, decide_eq_true_eq]; omega)]
      unfold prodI
      rw [IL_len, IL_len, show List.replicate ((tr p).length + (tr q).length - 1) (0 : Int) = IL (List.replicate ((tr p).length + (tr q).length - 1) 0) by simp [IL, ofF_zero], prodRows_IL]
      congr 2
      have e1 := prod_eqv (tr p) (tr q)
      have e2 : Eqv (mulP (tr p) (tr q)) (mulP p q) := mul_eqv (tr_eqv p) (tr_eqv q)
      rw [← tr_canon (e1.trans e2)]
      refine (tr_len_eq ?_).symm
      rw [dg_eqv (e1.trans e2), dg_mul (by unfold dg; omega) (by unfold dg; omega), prodRowsP_len, List.length_replicate]
      rfl
theorem same_l (l : List Int) (hl : l.length ≤ 100000) : ∀ (d i k : Nat), i + d = l.length → d < k → letterbagkit_SameBytes.l0 k l l (i : Int) = some true
  | 0, i, k, h, hk => by
    obtain ⟨k, rfl⟩ : ∃ m, k = m + 1 := ⟨k - 1, by omega⟩
    rw [letterbagkit_SameBytes.l0, if_neg (by omega)]
  | d + 1, i, k, h, hk => by
    obtain ⟨k, rfl⟩ : ∃ m, k = m + 1 := ⟨k - 1, by omega⟩
    rw [letterbagkit_SameBytes.l0, if_pos (by omega), if_pos (by omega), if_pos (by omega), if_pos rfl, w64 (by omega) (by omega)]
    exact same_l l hl d (i + 1) k (by omega) (by omega)
theorem same_f (l : List Int) (hl : l.length ≤ 100000) (k : Nat) (hk : l.length < k) : letterbagkit_SameBytes.f k l l = some true := by
  unfold letterbagkit_SameBytes.f
  rw [if_pos rfl]
  exact same_l l hl l.length 0 k (by omega) hk
end Go.Proofs.YtehgfpfmpkmdmaaDoor.Print

namespace Go.Proofs.YtehgfpfmpkmdmaaDoor.Print
open Go.RowKit Go.Proofs.YtehgfpfmpkmdmaaDoorW.PrintWords Go.Proofs.YtehgfpfmpkmdmaaDoorW.PrintLast Go.Proofs.YtehgfpfmpkmdmaaDoorW.PrintMore
attribute [local go_sem] max2_int min2_int max_two min_two max_three min_three max_four min_four   -- for this text's walks alone
set_option linter.unusedVariables false
set_option linter.unusedSimpArgs false
end Go.Proofs.YtehgfpfmpkmdmaaDoor.Print

namespace Go.Proofs.YtehgfpfmpkmdmaaDoor.Print
open Go.RowKit Go.Proofs.YtehgfpfmpkmdmaaDoorW.PrintWords Go.Proofs.YtehgfpfmpkmdmaaDoorW.PrintLast Go.Proofs.YtehgfpfmpkmdmaaDoorW.PrintMore
attribute [local go_sem] max2_int min2_int max_two min_two max_three min_three max_four min_four   -- for this text's walks alone
set_option linter.unusedVariables false
set_option linter.unusedSimpArgs false
end Go.Proofs.YtehgfpfmpkmdmaaDoor.Print

namespace Go.Proofs.YtehgfpfmpkmdmaaDoor.Print
open Go.RowKit Go.Proofs.YtehgfpfmpkmdmaaDoorW.PrintWords Go.Proofs.YtehgfpfmpkmdmaaDoorW.PrintLast Go.Proofs.YtehgfpfmpkmdmaaDoorW.PrintMore
open Go.Proofs.YtehgfpfmpkmdmaaDoor.Gf
theorem refMul_all : (List.range 64).all (fun a => (List.range 64).all fun b => letterbagref18_Mul.f 20 (a : Int) (b : Int) == some ((ml a b : Nat) : Int)) = true := by decide +kernel
theorem refMul_f (a b : F) (k : Nat) (hk : 20 ≤ k) : letterbagref18_Mul.f k (ofF a) (ofF b) = some (ofF (a * b)) := by
  refine at_rounds (g := fun k => letterbagref18_Mul.f k (ofF a) (ofF b)) (fun k => letterbagref18_Mul.mono _ _ k) hk ?_
  have h1 := List.all_eq_true.1 refMul_all a.v (by simpa using a.h)
  have h2 := List.all_eq_true.1 h1 b.v (by simpa using b.h)
  simpa [ofF, mul_v] using h2
/-- Elements, by their numbers. -/
def el (n : Nat) : F := ⟨n % 64, Nat.mod_lt _ (by decide)⟩
theorem ofF_el {n : Nat} (h : n < 64) : ofF (el n) = (n : Int) := by simp [ofF, el, Nat.mod_eq_of_lt h]
theorem el_v (a : F) : el a.v = a := F.ext (Nat.mod_eq_of_lt a.h)
theorem mul_eq_one {a x : F} (h : a * x = 1) : x = Gf.inv a := by
  have ha : a ≠ 0 := fun e => by rw [e, zero_mul] at h; exact absurd h (by decide)
  exact mul_cancel ha (h.trans (mul_inv ha).symm)
theorem refInv_l (a : F) (ha : a ≠ 0) : ∀ (d n k : Nat), n + d = (Gf.inv a).v → d + 30 ≤ k → letterbagref18_Inv.l0 k (ofF a) (n : Int) = some (ofF (Gf.inv a))
  | 0, n, k, h, hk => by
    obtain ⟨k, rfl⟩ : ∃ m, k = m + 1 := ⟨k - 1, by omega⟩
    have hi := (Gf.inv a).h
    have e : ofF (el n) = (n : Int) := ofF_el (by omega)
    have e2 : el n = Gf.inv a := by rw [show n = (Gf.inv a).v by omega, el_v]
    rw [letterbagref18_Inv.l0, if_pos (by omega), ← e, refMul_f a (el n) k (by omega), Option.bind_some, e2, mul_inv ha, if_pos (by rfl)]
  | d + 1, n, k, h, hk => by
    obtain ⟨k, rfl⟩ : ∃ m, k = m + 1 := ⟨k - 1, by omega⟩
    have hi := (Gf.inv a).h
    have e : ofF (el n) = (n : Int) := ofF_el (by omega)
    rw [letterbagref18_Inv.l0, if_pos (by omega), ← e, refMul_f a (el n) k (by omega), Option.bind_some, if_neg, e, show (((n : Int) + 1) % 256) = ((n + 1 : Nat) : Int) by omega]
    · exact refInv_l a ha d (n + 1) k (by omega) (by omega)
    · intro he
      have h1 : a * el n = 1 := ofF_inj (he.trans ofF_one.symm)
      have h2 := congrArg F.v (mul_eq_one h1)
      simp only [el] at h2
      omega
theorem inv_ne (a : F) : (Gf.inv a).v ≠ 0 := iv_ne a.v
theorem refInv_f (a : F) (ha : a ≠ 0) (k : Nat) (hk : 100 ≤ k) : letterbagref18_Inv.f k (ofF a) = some (ofF (Gf.inv a)) := by
  have h1 := inv_ne a
  have h2 := (Gf.inv a).h
  unfold letterbagref18_Inv.f
  exact refInv_l a ha ((Gf.inv a).v - 1) 1 k (by omega) (by omega)
end Go.Proofs.YtehgfpfmpkmdmaaDoor.Print

namespace Go.Proofs.YtehgfpfmpkmdmaaDoor.Print
open Go.RowKit Go.Proofs.YtehgfpfmpkmdmaaDoorW.PrintWords Go.Proofs.YtehgfpfmpkmdmaaDoorW.PrintLast Go.Proofs.YtehgfpfmpkmdmaaDoorW.PrintMore
open Go.Proofs.YtehgfpfmpkmdmaaDoor.Gf
def mono (i : Nat) (c : F) : Poly := List.replicate i 0 ++ [c]
theorem cf_mono (i : Nat) (c : F) (n : Nat) : cf (mono i c) n = if n = i then c else 0 := by
  simp only [cf, mono, List.getD_eq_getElem?_getD, List.getElem?_append, List.length_replicate, List.getElem?_replicate]
  rcases Nat.lt_trichotomy n i with h | h | h
  · simp [h, Nat.ne_of_lt h]
  · subst h
    simp
  · rw [if_neg (by omega), if_neg (by omega), List.getElem?_eq_none (by simp; omega)]
    rfl
theorem cf_mul_mono (i : Nat) (c : F) (q : Poly) (n : Nat) : cf (mulP (mono i c) q) n = if i ≤ n then c * cf q (n - i) else 0 := by
  rw [cf_mul]
  by_cases h : i ≤ n
  · rw [if_pos h, sn_one (j := i) (by omega)]
    · rw [cf_mono, if_pos rfl]
    · intro k _ hk
      rw [cf_mono, if_neg hk, zero_mul]
  · rw [if_neg h, sn_zero]
    intro k hk
    rw [cf_mono, if_neg (by omega), zero_mul]
theorem addAtP_eqv (d : Poly) (i : Nat) (c : F) (h : i < d.length) : Eqv (addAtP d i c) (addP d (mono i c)) := fun n => by
  rw [cf_addAtP _ _ _ _ h, cf_add, cf_mono]
  split
  · rfl
  · rw [add_zero]
theorem mulRowP_eqv (i : Nat) (c : F) (q o : Poly) (h : i + q.length ≤ o.length) : Eqv (mulRowP i c 0 q o) (addP o (mulP (mono i c) q)) := fun n => by
  rw [cf_mulRowP _ _ _ _ _ _ (by omega), cf_add, cf_mul_mono, Nat.add_zero]
/-- One step of a division. -/
theorem div_step {p d q rest : Poly} (i : Nat) (c : F) (hd : i < d.length) (hr : i + q.length ≤ rest.length) (h : Eqv p (addP (mulP d q) rest)) : Eqv p (addP (mulP (addAtP d i c) q) (mulRowP i c 0 q rest)) := fun n => by
  rw [h n, cf_add, cf_add, mulRowP_eqv i c q rest hr n, cf_add, mul_eqv (addAtP_eqv d i c hd) (Eqv.refl q) n, add_mulP d (mono i c) q n, cf_add]
  generalize cf (mulP d q) n = x
  generalize cf rest n = y
  generalize cf (mulP (mono i c) q) n = z
  calc x + y = x + y + (z + z) := by rw [add_self, add_zero]
    _ = x + z + (y + z) := by ac_rfl
theorem mulRowP_drop (i : Nat) (c : F) (q o : Poly) (k : Nat) (h : k < q.length) : mulRowP i c k (q.drop k) o = mulRowP i c (k + 1) (q.drop (k + 1)) (addAtP o (i + k) (c * cf q k)) := by
  rw [List.drop_eq_getElem_cons h, mulRowP, cf_get h]
theorem divide_l1 (q d : Poly) (c : F) (top : Int) (i : Nat) (hi : i < d.length) (hc : cf d i = c) (hil : i ≤ 100000) (hq : q.length ≤ 100000) : ∀ (e k K : Nat) (rest : Poly), k + e = q.length → i + q.length ≤ rest.length →
    field_divide.l1 (K + e + 1) (IL q) (IL rest) (IL d) top (i : Int) (IL q) (q.length : Int) (k : Int) = field_divide.l0 K (IL q) (IL (mulRowP i c k (q.drop k) rest)) (IL d) top ((i : Int) - 1)
  | 0, k, K, rest, he, hr => by
    rw [field_divide.l1, if_neg (by omega), w64 (by omega) (by omega), List.drop_of_length_le (by omega), mulRowP]
  | e + 1, k, K, rest, he, hr => by
    rw [show K + (e + 1) + 1 = (K + e + 1) + 1 by omega, field_divide.l1, w64 (x := (i : Int) + (k : Int)) (by omega) (by omega), if_pos (by omega), if_pos (by omega), if_pos (by rw [IL_len]; omega), if_pos (by omega), if_pos (by rw [IL_len]; omega), if_pos (by omega), if_pos (by rw [IL_len]; omega), rd_ILn, rd_ILn, hc, mul_ofF, Option.bind_some,
      show (i : Int) + (k : Int) = ((i + k : Nat) : Int) by omega, rd_ILn, bx_ofF, Int.toNat_natCast, IL_set, w64 (by omega) (by omega)]
    have := divide_l1 q d c top i hi hc hil hq e (k + 1) K (addAtP rest (i + k) (c * cf q k)) (by omega) (by rw [addAtP_len]; exact hr)
    rw [← mulRowP_drop i c q rest k (by omega)] at this
    exact this
theorem set_addAtP (d : Poly) (i : Nat) (c : F) (h : cf d i = 0) : d.set i c = addAtP d i c := by
  unfold addAtP
  rw [h, zero_add]
theorem dg_add_lt {s r : Poly} (h : dg r < dg s) : dg (addP s r) = dg s := by
  have := dg_eq (p := addP s r) (n := dg s - 1) (fun i hi => by rw [cf_add, dg_ge (by omega), dg_ge (by omega), add_zero]) (by rw [cf_add, dg_ge (p := r) (by omega), add_zero]; exact dg_top (by omega))
  omega
theorem divide_l0 (p q : Poly) (m L N : Nat) (hm : q.length = m) (hm1 : 1 ≤ m) (htop : cf q (m - 1) ≠ 0) (hL : L ≤ 1000) (hN : N ≤ 1000) (hm2 : m ≤ 1000) : ∀ (n K : Nat) (rest d : Poly), rest.length = L → d.length = N → n ≤ N → (1 ≤ n → n + m ≤ L + 1) → (∀ j, n + m - 1 ≤ j → cf rest j = 0) → (∀ j, j < n → cf d j = 0) → Eqv p (addP (mulP d q) rest) → n * (m + 2) + L + 3 ≤ K →
    ∃ d' r' : Poly, field_divide.l0 K (IL q) (IL rest) (IL d) (ofF (Gf.inv (cf q (m - 1)))) ((n : Int) - 1) = some (IL d', IL (tr r')) ∧ d'.length = N ∧ dg r' < m ∧ Eqv p (addP (mulP d' q) r')
  | 0, K, rest, d, hrl, hdl, _, _, hz, _, he, hk => by
    obtain ⟨K, rfl⟩ : ∃ j, K = j + 1 := ⟨K - 1, by omega⟩
    refine ⟨d, rest, ?_, hdl, ?_, he⟩
    · rw [field_divide.l0, if_neg (by omega), trim_f rest (by omega) K (by omega), Option.bind_some]
    · have := dg_le (p := rest) (n := m - 1) (fun i hi => hz i (by omega))
      omega
  | n + 1, K, rest, d, hrl, hdl, hnN, hnL, hz, hd0, he, hk => by
    have h1 := hnL (by omega)
    obtain ⟨K', hK'⟩ : ∃ j, K = (j + m + 1) + 1 := ⟨K - m - 2, by
      have : (n + 1) * (m + 2) = n * (m + 2) + (m + 2) := Nat.succ_mul _ _
      omega⟩
    have hmul : (n + 1) * (m + 2) = n * (m + 2) + (m + 2) := Nat.succ_mul _ _
    obtain ⟨c, hc⟩ : ∃ c, c = cf rest (n + m - 1) * Gf.inv (cf q (m - 1)) := ⟨_, rfl⟩
    have hstep : field_divide.l0 K (IL q) (IL rest) (IL d) (ofF (Gf.inv (cf q (m - 1)))) (((n + 1 : Nat) : Int) - 1) = field_divide.l0 K' (IL q) (IL (mulRowP n c 0 q rest)) (IL (addAtP d n c)) (ofF (Gf.inv (cf q (m - 1)))) ((n : Int) - 1) := by
      rw [hK', show (((n + 1 : Nat) : Int) - 1) = (n : Int) by omega, field_divide.l0, IL_len, w64 (x := (n : Int) + ((q.length : Nat) : Int)) (by omega) (by omega), w64 (x := (n : Int) + ((q.length : Nat) : Int) - 1) (by omega) (by omega), if_pos (by omega), if_pos (by omega), if_pos (by rw [IL_len]; omega),
        show (n : Int) + ((q.length : Nat) : Int) - 1 = ((n + m - 1 : Nat) : Int) by omega, rd_ILn, mul_ofF, Option.bind_some, ← hc, if_pos (by omega), if_pos (by rw [IL_len]; omega), Int.toNat_natCast, IL_set, set_addAtP d n c (hd0 n (by omega)), ← hm]
      have := divide_l1 q (addAtP d n c) c (ofF (Gf.inv (cf q (m - 1)))) n (by rw [addAtP_len]; omega) (by rw [cf_addAtP _ _ _ _ (by omega), if_pos rfl, hd0 n (by omega), zero_add]) (by omega) (by omega) q.length 0 K' rest (by omega) (by omega)
      rw [List.drop_zero] at this
      rw [hm] at this ⊢
      exact this
    obtain ⟨d', r', h2, h3, h4, h5⟩ := divide_l0 p q m L N hm hm1 htop hL hN hm2 n K' (mulRowP n c 0 q rest) (addAtP d n c) (by rw [mulRowP_len]; exact hrl) (by rw [addAtP_len]; exact hdl) (by omega) (fun _ => by omega) (fun j hj => by
        rw [mulRowP_eqv n c q rest (by omega) j, cf_add, cf_mul_mono, if_pos (by omega)]
        by_cases e : j = n + m - 1
        · subst e
          rw [show n + m - 1 - n = m - 1 by omega, hc, mul_assoc, inv_mul htop, mul_one, add_self]
        · rw [hz j (by omega), cf_ge (p := q) (by omega), mul_zero, add_zero]) (fun j hj => by rw [cf_addAtP _ _ _ _ (by omega), if_neg (by omega)]; exact hd0 j (by omega))
      (div_step n c (by omega) (by omega) he) (by omega)
    exact ⟨d', r', hstep.trans h2, h3, h4, h5⟩
theorem len_dg (p : Poly) : (tr p).length = dg p := rfl
/-- The program's division, by a polynomial that is not 0. -/
theorem divide_f (p q : Poly) (hp : p.length ≤ 500) (hq : q.length ≤ 500) (hq0 : 0 < dg q) (K : Nat) (hK : 600000 ≤ K) :
    ∃ d r : Poly, field_divide.f K (IL p) (IL q) = some (IL d, IL r) ∧ tr d = d ∧ tr r = r ∧ dg r < dg q ∧ Eqv p (addP (mulP d q) r) := by
  have lp := tr_len p
  have lq := tr_len q
  have htop : cf (tr q) (dg q - 1) ≠ 0 := by rw [tr_eqv q]; exact dg_top hq0
  have hlq : (tr q).length = dg q := rfl
  have hlp : (tr p).length = dg p := rfl
  unfold field_divide.f
  rw [trim_f p (by omega) K (by omega), Option.bind_some, trim_f q (by omega) K (by omega), Option.bind_some, IL_len, IL_len]
  by_cases hlt : dg p < dg q
  · rw [if_pos (by omega)]
    refine ⟨[], tr p, rfl, rfl, tr_tr p, by rw [dg_tr]; exact hlt, fun i => ?_⟩
    rw [cf_add, mulP, cf_nil, zero_add, tr_eqv]
  · rw [if_neg (by omega), w64 (x := (((tr p).length : Nat) : Int) - (((tr q).length : Nat) : Int)) (by omega) (by omega), w64 (x := (((tr p).length : Nat) : Int) - (((tr q).length : Nat) : Int) + 1) (by omega) (by omega), w64 (x := (((tr q).length : Nat) : Int) - 1) (by omega) (by omega)]
    obtain ⟨N, hN⟩ : ∃ N, N = dg p - dg q + 1 := ⟨_, rfl⟩
    rw [show (((tr p).length : Nat) : Int) - (((tr q).length : Nat) : Int) + 1 = (N : Int) by omega, if_pos (by omega), Int.toNat_natCast, if_pos (by omega), Option.bind_some, if_pos (by omega), if_pos (by omega), show (((tr q).length : Nat) : Int) - 1 = ((dg q - 1 : Nat) : Int) by omega, rd_ILn, inv_ofF htop, Option.bind_some, List.length_replicate, w64 (x := ((N : Nat) : Int) - 1) (by omega) (by omega),
      show List.replicate N (0 : Int) = IL (List.replicate N 0) by simp [IL, ofF_zero]]
    have hle : N * (dg q + 2) ≤ 501 * 502 := Nat.mul_le_mul (by omega) (by omega)
    obtain ⟨d, r, h1, h2, h3, h4⟩ := divide_l0 (tr p) (tr q) (dg q) (dg p) N hlq (by omega) htop (by omega) (by omega) (by omega) N K (tr p) (List.replicate N 0) hlp (by rw [List.length_replicate]) (Nat.le_refl _) (fun _ => by omega) (fun j hj => cf_ge (by omega)) (fun j _ => cf_rep _ _) (fun i => by
      rw [cf_add, mul_nil (.inl (fun i => cf_rep _ i)) i, cf_nil, zero_add]) (by omega)
    have h5 : Eqv p (addP (mulP d q) r) := fun i => by
      rw [← tr_eqv p i, h4 i, cf_add, cf_add, mul_eqv (Eqv.refl d) (tr_eqv q) i]
    refine ⟨d, tr r, h1, ?_, tr_tr r, by rw [dg_tr]; exact h3, h5.trans (add_eqv (Eqv.refl _) (tr_eqv r).symm)⟩
    refine tr_len_eq ?_
    have hdd : 0 < dg d := by
      rcases Nat.eq_zero_or_pos (dg d) with h | h
      · have := dg_eqv (h5.trans (fun i => by rw [cf_add, mul_nil (.inl (dg_zero h)) i, cf_nil, zero_add]) : Eqv p r)
        omega
      · exact h
    have hm := dg_mul hdd hq0
    have := dg_eqv h5
    rw [dg_add_lt (by omega), hm] at this
    omega
end Go.Proofs.YtehgfpfmpkmdmaaDoor.Print

namespace Go.Proofs.YtehgfpfmpkmdmaaDoor.Print
open Go.RowKit Go.Proofs.YtehgfpfmpkmdmaaDoorW.PrintWords Go.Proofs.YtehgfpfmpkmdmaaDoorW.PrintLast Go.Proofs.YtehgfpfmpkmdmaaDoorW.PrintMore
attribute [local go_sem] max2_int min2_int max_two min_two max_three min_three max_four min_four   -- for this text's walks alone
set_option linter.unusedVariables false
set_option linter.unusedSimpArgs false
end Go.Proofs.YtehgfpfmpkmdmaaDoor.Print

namespace Go.Proofs.YtehgfpfmpkmdmaaDoor.Print
open Go.RowKit Go.Proofs.YtehgfpfmpkmdmaaDoorW.PrintWords Go.Proofs.YtehgfpfmpkmdmaaDoorW.PrintLast Go.Proofs.YtehgfpfmpkmdmaaDoorW.PrintMore
open Go.Proofs.YtehgfpfmpkmdmaaDoor.Gf
theorem Degree_f (p : Poly) (hp : p.length ≤ 128) (k : Nat) (hk : 1000 ≤ k) : field_Degree.f k (IL p) = some ((dg p : Int) - 1, 0) := by
  have := dg_len p
  unfold field_Degree.f
  rw [check_one p hp, Option.bind_some, if_pos rfl, trim_f p (by omega) k (by omega), Option.bind_some, IL_len, len_dg, w64 (by omega) (by omega)]
theorem Trim_f (p : Poly) (hp : p.length ≤ 128) (k : Nat) (hk : 1000 ≤ k) : field_Trim.f k (IL p) = some (IL (tr p), 0) := by
  unfold field_Trim.f
  rw [check_one p hp, Option.bind_some, if_pos rfl, trim_f p (by omega) k (by omega), Option.bind_some]
theorem Sum_f (p q : Poly) (hp : p.length ≤ 128) (hq : q.length ≤ 128) : field_Sum.f (IL p) (IL q) = some (IL (tr (addP p q)), 0) := by
  unfold field_Sum.f
  rw [check_two p q hp hq, Option.bind_some, if_pos rfl, sum_f p q (by omega) (by omega), Option.bind_some]
theorem Divide_f (p q : Poly) (hp : p.length ≤ 128) (hq : q.length ≤ 128) (hq0 : 0 < dg q) (k : Nat) (hk : 600000 ≤ k) :
    ∃ d r : Poly, field_Divide.f k (IL p) (IL q) = some (IL d, IL r, 0) ∧ tr d = d ∧ tr r = r ∧ dg r < dg q ∧ Eqv p (addP (mulP d q) r) := by
  obtain ⟨d, r, h, h1⟩ := divide_f p q (by omega) (by omega) hq0 k hk
  refine ⟨d, r, ?_, h1⟩
  unfold field_Divide.f
  rw [check_two p q hp hq, Option.bind_some, if_pos rfl, trim_f q (by omega) k (by omega), Option.bind_some, IL_len, len_dg, if_neg (by omega), h, Option.bind_some]
theorem len_of_tr {p : Poly} (h : tr p = p) : p.length = dg p := by rw [← len_dg, h]
/-- What a division's quotient and rest may have. -/
theorem div_bounds {p q d r : Poly} (hq0 : 0 < dg q) (hr : dg r < dg q) (h : Eqv p (addP (mulP d q) r)) : dg d ≤ dg p ∧ dg (mulP d q) ≤ dg p := by
  rcases Nat.eq_zero_or_pos (dg d) with h0 | h0
  · have : dg (mulP d q) = 0 := by
      have := dg_eqv (mul_nil (q := q) (.inl (dg_zero h0)))
      rw [this]
      rfl
    omega
  · have h1 := dg_mul h0 hq0
    have h2 := dg_eqv h
    rw [dg_add_lt (by omega)] at h2
    omega
theorem mul_dg_le (p q : Poly) : dg (mulP p q) ≤ p.length + q.length := by
  have lp := dg_len p
  have lq := dg_len q
  rcases Nat.eq_zero_or_pos (dg p) with h | h
  · have := dg_eqv (mul_nil (q := q) (.inl (dg_zero h)))
    rw [this]
    exact Nat.zero_le _
  · rcases Nat.eq_zero_or_pos (dg q) with h' | h'
    · have := dg_eqv (mul_nil (p := p) (.inr (dg_zero h')))
      rw [this]
      exact Nat.zero_le _
    · rw [dg_mul h h']
      omega
end Go.Proofs.YtehgfpfmpkmdmaaDoor.Print

namespace Go.Proofs.YtehgfpfmpkmdmaaDoor.Print
open Go.RowKit Go.Proofs.YtehgfpfmpkmdmaaDoorW.PrintWords Go.Proofs.YtehgfpfmpkmdmaaDoorW.PrintLast Go.Proofs.YtehgfpfmpkmdmaaDoorW.PrintMore
open Go.Proofs.YtehgfpfmpkmdmaaDoor.Gf
theorem any_dropR {l : List Int} {i : Nat} (h : i < l.length) (f : Int → Bool) : (l.drop i).any f = (f (rd l (i : Int)) || (l.drop (i + 1)).any f) := by
  rw [List.drop_eq_getElem_cons h, List.any_cons]
  congr 2
  simp [rd, List.getD_eq_getElem?_getD, List.getElem?_eq_getElem h]
theorem rErr1 (l : List Int) (hl : l.length ≤ 100000) : ∀ (d i k : Nat), i + d = l.length → d < k → letterbagref18_Error.l1 k l (i : Int) = some (if (l.drop i).any badEl then 2 else 0) := by
  intro d
  induction d with
  | zero =>
    intro i k h hk
    obtain ⟨k, rfl⟩ : ∃ k', k = k' + 1 := ⟨k - 1, by omega⟩
    rw [letterbagref18_Error.l1, if_neg (by omega), List.drop_eq_nil_of_le (by omega)]
    rfl
  | succ d ih =>
    intro i k h hk
    obtain ⟨k, rfl⟩ : ∃ k', k = k' + 1 := ⟨k - 1, by omega⟩
    rw [letterbagref18_Error.l1, if_pos (by omega), if_pos (by omega), any_dropR (by omega)]
    by_cases hb : rd l (i : Int) > 63
    · rw [if_pos hb, show badEl (rd l (i : Int)) = true from decide_eq_true (by omega)]
      rfl
    · rw [if_neg hb, show badEl (rd l (i : Int)) = false from decide_eq_false (by omega), w64 (by omega) (by omega), Bool.false_or]
      exact ih (i + 1) k (by omega) (by omega)
theorem rErr0 (l m : List Int) (hl : l.length ≤ 100000) (hm : m.length ≤ 100000) : ∀ (d i k : Nat), i + d = l.length → d + m.length + 1 < k → letterbagref18_Error.l0 k l m (i : Int) = some (if (l.drop i).any badEl then 2 else if m.any badEl then 2 else 0) := by
  intro d
  induction d with
  | zero =>
    intro i k h hk
    obtain ⟨k, rfl⟩ : ∃ k', k = k' + 1 := ⟨k - 1, by omega⟩
    rw [letterbagref18_Error.l0, if_neg (by omega), List.drop_eq_nil_of_le (by omega)]
    exact rErr1 m hm m.length 0 k (by omega) (by omega)
  | succ d ih =>
    intro i k h hk
    obtain ⟨k, rfl⟩ : ∃ k', k = k' + 1 := ⟨k - 1, by omega⟩
    rw [letterbagref18_Error.l0, if_pos (by omega), if_pos (by omega), any_dropR (by omega)]
    by_cases hb : rd l (i : Int) > 63
    · rw [if_pos hb, show badEl (rd l (i : Int)) = true from decide_eq_true (by omega)]
      rfl
    · rw [if_neg hb, show badEl (rd l (i : Int)) = false from decide_eq_false (by omega), w64 (by omega) (by omega), Bool.false_or]
      exact ih (i + 1) k (by omega) (by omega)
theorem rErr (l m : List Int) (hl : l.length ≤ 1000) (hm : m.length ≤ 1000) (k : Nat) (hk : 3000 ≤ k) :
    letterbagref18_Error.f k l m = some (if 128 < l.length ∨ 128 < m.length then 3 else if l.any badEl then 2 else if m.any badEl then 2 else 0) := by
  obtain ⟨k, rfl⟩ : ∃ k', k = k' + 1 := ⟨k - 1, by omega⟩
  unfold letterbagref18_Error.f
  by_cases h1 : 128 < l.length
  · rw [if_pos (by omega), letterbagref18_Error.j0, if_pos rfl, if_pos (.inl h1)]
  · rw [if_neg (by omega)]
    by_cases h2 : 128 < m.length
    · rw [show decide ((m.length : Int) > 128) = true from decide_eq_true (by omega), letterbagref18_Error.j0, if_pos rfl, if_pos (.inr h2)]
    · rw [show decide ((m.length : Int) > 128) = false from decide_eq_false (by omega), letterbagref18_Error.j0, if_neg (by decide), if_neg (by omega)]
      exact rErr0 l m (by omega) (by omega) l.length 0 k (by omega) (by omega)
/-- The reference's error is the program's. -/
theorem err_two (l m : List Int) : field_check.f [l, m] = some (if 128 < l.length ∨ 128 < m.length then 3 else if l.any badEl then 2 else if m.any badEl then 2 else 0) := by
  unfold field_check.f
  congr 1
  simp only [List.any_cons, List.any_nil, Bool.or_false, longL]
  by_cases h1 : 128 < l.length <;> by_cases h2 : 128 < m.length <;> cases l.any badEl <;> cases m.any badEl <;> simp [h1, h2]
theorem err_one (l : List Int) : field_check.f [l] = some (if 128 < l.length then 3 else if l.any badEl then 2 else 0) := by
  unfold field_check.f
  congr 1
  simp only [List.any_cons, List.any_nil, Bool.or_false, longL]
  by_cases h1 : 128 < l.length <;> cases l.any badEl <;> simp [h1]
/-- A list without error is a polynomial. -/
theorem poly_of {l : List Int} (hb : l.any badEl = false) (h0 : ∀ x ∈ l, 0 ≤ x) : ∃ p : Poly, l = IL p ∧ p.length = l.length := by
  refine IL_of (List.all_eq_true.2 fun x hx => ?_)
  have h1 : badEl x = false := by
    cases e : badEl x
    · rfl
    · exact absurd (List.any_eq_true.2 ⟨x, hx, e⟩) (by rw [hb]; decide)
  have h2 : ¬ x ≥ 64 := of_decide_eq_false h1
  have h3 := h0 x hx
  unfold elB
  simp
  omega
theorem cf_take (p : Poly) (n j : Nat) : cf (p.take n) j = if j < n then cf p j else 0 := by
  simp only [cf, List.getD_eq_getElem?_getD, List.getElem?_take]
  by_cases h : j < n
  · simp [h]
  · simp [h]
theorem dg_take_succ (p : Poly) (i : Nat) : dg (p.take (i + 1)) = if cf p i = 0 then dg (p.take i) else i + 1 := by
  by_cases h : cf p i = 0
  · rw [if_pos h]
    refine dg_eqv fun j => ?_
    rw [cf_take, cf_take]
    by_cases h1 : j < i
    · rw [if_pos (by omega), if_pos h1]
    · rw [if_neg h1]
      by_cases h2 : j < i + 1
      · rw [if_pos h2, show j = i by omega, h]
      · rw [if_neg h2]
  · rw [if_neg h]
    refine dg_eq (fun j hj => ?_) ?_
    · rw [cf_take, if_neg (by omega)]
    · rw [cf_take, if_pos (by omega)]
      exact h
theorem rDeg_l (p : Poly) (hp : p.length ≤ 100000) : ∀ (d i k : Nat), i + d = p.length → d < k → letterbagref18_Degree.l0 k (IL p) ((dg (p.take i) : Int) - 1) (i : Int) = some ((dg p : Int) - 1) := by
  intro d
  induction d with
  | zero =>
    intro i k h hk
    obtain ⟨k, rfl⟩ : ∃ k', k = k' + 1 := ⟨k - 1, by omega⟩
    rw [letterbagref18_Degree.l0, if_neg (by rw [IL_len]; omega), List.take_of_length_le (by omega)]
  | succ d ih =>
    intro i k h hk
    obtain ⟨k, rfl⟩ : ∃ k', k = k' + 1 := ⟨k - 1, by omega⟩
    have hi := ih (i + 1) k (by omega) (by omega)
    rw [dg_take_succ] at hi
    rw [letterbagref18_Degree.l0, if_pos (by rw [IL_len]; omega), if_pos (by omega), rd_ILn, w64 (by omega) (by omega)]
    by_cases hz : cf p i = 0
    · rw [if_pos (by rw [hz]; rfl)]
      rw [if_pos hz] at hi
      exact hi
    · rw [if_neg (fun e => hz (ofF_eq_zero.1 e))]
      rw [if_neg hz] at hi
      simpa using hi
theorem rDeg (p : Poly) (hp : p.length ≤ 100000) (k : Nat) (hk : p.length < k) : letterbagref18_Degree.f k (IL p) = some ((dg p : Int) - 1) :=
  rDeg_l p hp p.length 0 k (by omega) hk
theorem take_dg (p : Poly) : p.take (dg p) = tr p := by
  rcases Nat.eq_zero_or_pos (dg p) with h | h
  · rw [h, List.take_zero]
    exact (List.eq_nil_of_length_eq_zero h).symm
  · have := take_tr (p := p) (n := dg p - 1) (fun i hi => dg_ge (by omega)) (dg_top h)
    rwa [show dg p - 1 + 1 = dg p by omega] at this
theorem IL_app (p : Poly) (a : F) : IL p ++ [ofF a] = IL (p ++ [a]) := by simp [IL]
theorem take_app (p : Poly) (i : Nat) (h : i < p.length) : p.take i ++ [cf p i] = p.take (i + 1) := by
  rw [cf_get h, List.take_add_one, List.getElem?_eq_getElem h]
  rfl
theorem rTrim_l (p : Poly) (hp : p.length ≤ 100000) : ∀ (d i k : Nat), i + d = dg p → d + p.length + 1 < k → letterbagref18_Trim.l0 k (IL p) (IL (p.take i)) (i : Int) = some (IL (tr p)) := by
  have hd := dg_len p
  intro d
  induction d with
  | zero =>
    intro i k h hk
    obtain ⟨k, rfl⟩ : ∃ k', k = k' + 1 := ⟨k - 1, by omega⟩
    rw [letterbagref18_Trim.l0, rDeg p hp k (by omega), Option.bind_some, if_neg (by omega), show i = dg p by omega, take_dg]
  | succ d ih =>
    intro i k h hk
    obtain ⟨k, rfl⟩ : ∃ k', k = k' + 1 := ⟨k - 1, by omega⟩
    rw [letterbagref18_Trim.l0, rDeg p hp k (by omega), Option.bind_some, if_pos (by omega), if_pos (by omega), if_pos (by rw [IL_len]; omega), if_pos (by rw [IL_len, List.length_take]; omega), rd_ILn, w64 (by omega) (by omega), IL_app, take_app p i (by omega)]
    exact ih (i + 1) k (by omega) (by omega)
theorem rTrim (p : Poly) (hp : p.length ≤ 100000) (k : Nat) (hk : 2 * p.length + 1 < k) : letterbagref18_Trim.f k (IL p) = some (IL (tr p)) := by
  have hd := dg_len p
  exact rTrim_l p hp (dg p) 0 k (by omega) (by omega)
def upTo (c : Nat → F) (n : Nat) : Poly := (List.range n).map c
theorem upTo_succ (c : Nat → F) (n : Nat) : upTo c n ++ [c n] = upTo c (n + 1) := by simp [upTo, List.range_succ]
theorem upTo_len (c : Nat → F) (n : Nat) : (upTo c n).length = n := by simp [upTo]
theorem cf_upTo (c : Nat → F) (n j : Nat) : cf (upTo c n) j = if j < n then c j else 0 := by
  by_cases h : j < n
  · rw [if_pos h]
    simp [cf, upTo, List.getD_eq_getElem?_getD, List.getElem?_range h]
  · rw [if_neg h]
    exact cf_ge (by rw [upTo_len]; omega)
theorem coef_f (p : Poly) (i : Nat) : letterbagref18_coef.f (IL p) (i : Int) = some (ofF (cf p i)) := by
  unfold letterbagref18_coef.f
  rw [if_neg (by omega), IL_len]
  by_cases h : i < p.length
  · rw [if_neg (by omega), if_pos (by omega), if_pos (by omega), rd_ILn]
  · rw [if_pos (by omega), cf_ge (by omega)]
    rfl
theorem rSum_l (p q : Poly) (hp : p.length ≤ 100000) (hq : q.length ≤ 100000) (N : Nat) (hN : N = max p.length q.length) : ∀ (d i k : Nat), i + d = N → 2 * d + 2 * N + 10 < k → letterbagref18_Sum.l0 k (IL p) (IL q) (IL (upTo (fun j => cf p j + cf q j) i)) (i : Int) = some (IL (tr (addP p q))) := by
  intro d
  induction d with
  | zero =>
    intro i k h hk
    obtain ⟨k, rfl⟩ : ∃ k', k = k' + 1 + 1 := ⟨k - 2, by omega⟩
    rw [letterbagref18_Sum.l0, if_neg (by rw [IL_len]; omega), show decide ((i : Int) < ((IL q).length : Int)) = false from decide_eq_false (by rw [IL_len]; omega), letterbagref18_Sum.j1, if_neg (by decide), rTrim _ (by rw [upTo_len]; omega) k (by rw [upTo_len]; omega), Option.bind_some]
    congr 2
    refine tr_canon fun j => ?_
    rw [cf_upTo, cf_add]
    by_cases hj : j < i
    · rw [if_pos hj]
    · rw [if_neg hj, cf_ge (p := p) (by omega), cf_ge (p := q) (by omega), add_zero]
  | succ d ih =>
    intro i k h hk
    obtain ⟨k, rfl⟩ : ∃ k', k = k' + 1 + 1 := ⟨k - 2, by omega⟩
    have step : letterbagref18_Sum.j1 (k + 1) (IL p) (IL q) (IL (upTo (fun j => cf p j + cf q j) i)) (i : Int) true = some (IL (tr (addP p q))) := by
      rw [letterbagref18_Sum.j1, if_pos rfl, coef_f, Option.bind_some, coef_f, Option.bind_some, if_pos (by rw [IL_len, upTo_len]; omega), bx_ofF, IL_app, w64 (by omega) (by omega), upTo_succ (fun j => cf p j + cf q j)]
      exact ih (i + 1) k (by omega) (by omega)
    rw [letterbagref18_Sum.l0]
    by_cases h1 : (i : Int) < ((IL p).length : Int)
    · rw [if_pos h1]
      exact step
    · rw [if_neg h1, show decide ((i : Int) < ((IL q).length : Int)) = true from decide_eq_true (by rw [IL_len] at h1 ⊢; omega)]
      exact step
theorem rSum (p q : Poly) (hp : p.length ≤ 100000) (hq : q.length ≤ 100000) (k : Nat) (hk : 4 * (p.length + q.length) + 10 < k) : letterbagref18_Sum.f k (IL p) (IL q) = some (IL (tr (addP p q))) :=
  rSum_l p q hp hq _ rfl (max p.length q.length) 0 k (by omega) (by omega)
theorem rProd_1 (p q : Poly) (i : Nat) (hi : i ≤ 1000) (R : Option (List Int)) (out : List Int) : ∀ (d j k : Nat), j + d = i + 1 → d + 25 < k →
    (∀ k', k ≤ k' + d + 1 → (if out.length < 140737488355328 then (letterbagref18_Product.l0 k' (IL p) (IL q) (out ++ [ofF (cf (mulP p q) i)]) (wrap64 ((i : Int) + 1))) else none) = R) →
    letterbagref18_Product.l1 k (IL p) (IL q) out (i : Int) (ofF (sn (fun k => cf p k * cf q (i - k)) j)) (j : Int) = R := by
  intro d
  induction d with
  | zero =>
    intro j k h hk hR
    obtain ⟨k, rfl⟩ : ∃ k', k = k' + 1 := ⟨k - 1, by omega⟩
    rw [letterbagref18_Product.l1, if_neg (by omega), ← hR k (by omega), cf_mul, show j = i + 1 by omega]
  | succ d ih =>
    intro j k h hk hR
    obtain ⟨k, rfl⟩ : ∃ k', k = k' + 1 := ⟨k - 1, by omega⟩
    have e : wrap64 ((i : Int) - (j : Int)) = ((i - j : Nat) : Int) := by rw [w64 (by omega) (by omega)]; omega
    rw [letterbagref18_Product.l1, if_pos (by omega), coef_f, Option.bind_some, e, coef_f, Option.bind_some, refMul_f _ _ k (by omega), Option.bind_some, bx_ofF, w64 (by omega) (by omega)]
    exact ih (j + 1) k (by omega) (by omega) (fun k' hk' => hR k' (by omega))
theorem rProd_0 (p q : Poly) (hp : p.length ≤ 300) (hq : q.length ≤ 300) (N : Nat) (hN : N = dg p + dg q - 1) : ∀ (d i k : Nat), i + d = N → 1000 * d + 3000 < k →
    letterbagref18_Product.l0 k (IL p) (IL q) (IL (upTo (cf (mulP p q)) i)) (i : Int) = some (IL (tr (mulP p q))) := by
  have lp := dg_len p
  have lq := dg_len q
  intro d
  induction d with
  | zero =>
    intro i k h hk
    obtain ⟨k, rfl⟩ : ∃ k', k = k' + 1 := ⟨k - 1, by omega⟩
    rw [letterbagref18_Product.l0, rDeg p (by omega) k (by omega), Option.bind_some, rDeg q (by omega) k (by omega), Option.bind_some, w64 (by omega) (by omega), if_neg (by omega), rTrim _ (by rw [upTo_len]; omega) k (by rw [upTo_len]; omega), Option.bind_some]
    congr 2
    refine tr_canon fun j => ?_
    rw [cf_upTo]
    by_cases hj : j < i
    · rw [if_pos hj]
    · rw [if_neg hj]
      rcases Nat.eq_zero_or_pos (dg p) with h1 | h1
      · exact ((mul_nil (q := q) (.inl (dg_zero h1))) j).symm
      · rcases Nat.eq_zero_or_pos (dg q) with h2 | h2
        · exact ((mul_nil (p := p) (.inr (dg_zero h2))) j).symm
        · exact (mul_above (m := dg p - 1) (n := dg q - 1) (fun a ha => dg_ge (by omega)) (fun a ha => dg_ge (by omega)) (by omega)).symm
  | succ d ih =>
    intro i k h hk
    obtain ⟨k, rfl⟩ : ∃ k', k = k' + 1 := ⟨k - 1, by omega⟩
    rw [letterbagref18_Product.l0, rDeg p (by omega) k (by omega), Option.bind_some, rDeg q (by omega) k (by omega), Option.bind_some, w64 (by omega) (by omega), if_pos (by omega)]
    refine rProd_1 p q i (by omega) _ _ (i + 1) 0 k (by omega) (by omega) fun k' hk' => ?_
    rw [if_pos (by rw [IL_len, upTo_len]; omega), IL_app, w64 (by omega) (by omega), upTo_succ (cf (mulP p q))]
    exact ih (i + 1) k' (by omega) (by omega)
theorem rProd (p q : Poly) (hp : p.length ≤ 300) (hq : q.length ≤ 300) (k : Nat) (hk : 700000 ≤ k) : letterbagref18_Product.f k (IL p) (IL q) = some (IL (tr (mulP p q))) := by
  have lp := dg_len p
  have lq := dg_len q
  exact rProd_0 p q hp hq _ rfl (dg p + dg q - 1) 0 k (by omega) (by omega)
end Go.Proofs.YtehgfpfmpkmdmaaDoor.Print
