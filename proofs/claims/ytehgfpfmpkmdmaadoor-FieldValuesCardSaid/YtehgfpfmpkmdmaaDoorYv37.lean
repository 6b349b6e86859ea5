-- Gkk, Gvad, Print29, Fi, Print32, Print33, Fr, Fd, Print14, Print15, Fx, Fu, Print27, Fw, Fe, Ft (what this claim uses of them)
import Derived.Test.YtehgfpfmpkmdmaaDoorYv36
import Derived.Test.YtehgfpfmpkmdmaaDoorYv35
import Derived.Test.YtehgfpfmpkmdmaaDoorYv22
import Derived.Test.YtehgfpfmpkmdmaaDoorYv24
import Derived.Test.YtehgfpfmpkmdmaaDoorYv26
import Derived.Test.YtehgfpfmpkmdmaaDoorYv27
import Derived.Test.YtehgfpfmpkmdmaaDoorYv28
import Derived.Test.YtehgfpfmpkmdmaaDoorYv30
import Derived.Test.YtehgfpfmpkmdmaaDoorYv34
import Derived.Test.YtehgfpfmpkmdmaaDoorYv25
import Derived.Test.YtehgfpfmpkmdmaaDoorYv32
import Derived.Test.YtehgfpfmpkmdmaaDoorYv31
import Derived.Test.YtehgfpfmpkmdmaaDoorYv33
import Derived.Test.YtehgfpfmpkmdmaaDoorYv29
namespace Go.Proofs.YtehgfpfmpkmdmaaDoor.Print
open Go.RowKit Go.Proofs.YtehgfpfmpkmdmaaDoorW.PrintWords Go.Proofs.YtehgfpfmpkmdmaaDoorW.PrintLast Go.Proofs.YtehgfpfmpkmdmaaDoorW.PrintMore
theorem map_get (f : Nat → Int) (n i : Nat) (h : i < n) : ((List.range n).map f).getD i 0 = f i := by
  simp [List.getD_eq_getElem?_getD, List.getElem?_range h]
theorem mks_get (n i : Nat) (h : i < n) : (mks n).getD i 0 = mk1 (i : Int) := map_get (fun i : Nat => mk1 (i : Int)) n i h
theorem rd_left (l r : List Int) (j : Nat) (c : j < l.length) : rd (l ++ r) (j : Int) = rd l (j : Int) := by
  simp [rd, List.getD_eq_getElem?_getD, List.getElem?_append_left c]
theorem rd_right (l r : List Int) (j : Nat) (c : l.length ≤ j) : rd (l ++ r) (j : Int) = r.getD (j - l.length) 0 := by
  simp [rd, List.getD_eq_getElem?_getD, List.getElem?_append_right c]
theorem kept_loop (l : List Int) (hl : l.length ≤ 1000) : ∀ m j : Nat, j + m = (l ++ mks 12).length → letterbagkit_KeptBytes.l0 (m + 1) l (l ++ mks 12) (j : Int) = some true := by
  have hlen : (l ++ mks 12).length = l.length + 12 := by rw [List.length_append, mks_len]
  intro m
  induction m with
  | zero =>
    intro j hj
    unfold letterbagkit_KeptBytes.l0
    rw [if_neg (by omega)]
  | succ m ih =>
    intro j hj
    have hw : wrap64 ((j : Int) + 1) = ((j + 1 : Nat) : Int) := by simp only [wrap64]; omega
    unfold letterbagkit_KeptBytes.l0
    rw [if_pos (show (j : Int) < ((l ++ mks 12).length : Int) by omega)]
    by_cases c : j < l.length
    · have hrd : rd (l ++ mks 12) (j : Int) = rd l (j : Int) := by
        exact rd_left l (mks 12) j c
      rw [if_pos (show (j : Int) < (l.length : Int) by omega), if_pos (show (0 : Int) ≤ (j : Int) by omega), if_pos hrd, if_neg (show ¬ ((j : Int) ≥ (l.length : Int)) by omega), hw]
      exact ih (j + 1) (by omega)
    · have hw2 : wrap64 ((j : Int) - (l.length : Int)) = ((j - l.length : Nat) : Int) := by simp only [wrap64]; omega
      have hrd : rd (l ++ mks 12) (j : Int) = mk1 ((j - l.length : Nat) : Int) := by
        rw [← mks_get 12 (j - l.length) (by omega)]
        exact rd_right l (mks 12) j (by omega)
      rw [if_neg (show ¬ ((j : Int) < (l.length : Int)) by omega), if_pos (show (j : Int) ≥ (l.length : Int) by omega), if_pos (show (0 : Int) ≤ (j : Int) by omega), hw2, mk1_f]
      simp only [Option.bind_some]
      rw [if_pos hrd, hw]
      exact ih (j + 1) (by omega)
def letterbagkit_KeptBytes.f (l0 l1 : List Int) : Option Bool := if l0 = l1 ∧ l0.length ≤ 1000 then some true else none
theorem letterbagkit_KeptBytes.calls (A0 : Option Addr) (c0 : Nat) (l0 : List Int) (A1 : Option Addr) (c1 : Nat) (l1 : List Int) (r : Bool) (w : World) (hL : Lent w (.slice A0 l0.length c0) l0) (hr1 : Kd.C (Kd.int .u8) w A1 l1.length l1) (hc1 : l1.length ≤ c1) (h : letterbagkit_KeptBytes.f l0 l1 = some r) :
    Calls Tryd.prog 18 #[.slice A0 l0.length c0, .slice A1 l1.length c1] w fun e w' => e = .returned (.bool r) ∧ Below w.heap.size w w' := by
  unfold letterbagkit_KeptBytes.f at h
  split at h
  · rename_i hh
    obtain ⟨rfl, hl⟩ := hh
    injection h with h
    subst h
    obtain ⟨A, c, e, h1, h2⟩ := hL
    injection e with e1 e2 e3
    subst e1 e3
    exact letterbagkit_KeptBytes.callsK ((l0 ++ mks 12).length + 1) A0 c0 l0 (l0 ++ mks 12) A1 c1 l0 w (by rw [List.length_append, mks_len]) h1 h2 hr1 hc1 hl rfl (kept_loop l0 hl _ 0 (by omega))
  · cases h
end Go.Proofs.YtehgfpfmpkmdmaaDoor.Print

namespace Go.Proofs.YtehgfpfmpkmdmaaDoor.Print
open Go.RowKit Go.Proofs.YtehgfpfmpkmdmaaDoorW.PrintWords Go.Proofs.YtehgfpfmpkmdmaaDoorW.PrintLast Go.Proofs.YtehgfpfmpkmdmaaDoorW.PrintMore
attribute [local go_sem] max2_int min2_int max_two min_two max_three min_three max_four min_four   -- for this text's walks alone
set_option linter.unusedVariables false
set_option linter.unusedSimpArgs false
mutual
def letterbaglaw18_FieldValues.j0 : Nat → List Int → Int → List Int → List Int → Bool → Option (Bool)
  | 0, _, _, _, _, _ => none
  | k + 1, x0, x1, x2, x3, x35 => if x35 = true then ((letterbaglaw18_awake.f).bind fun t475 => (some t475)) else ((letterbagkit_LentBytes.f x0).bind fun t476 => ((letterbagkit_LentBytes.f x2).bind fun t479 => ((letterbagkit_LentBytes.f x3).bind fun t482 => ((field_Eval.f t476 x1).bind fun bt485 => ((field_Roots.f k t476).bind fun bt487 => ((field_Through.f k t479 t482).bind fun bt491 => ((letterbagkit_KeptBytes.f t476 x0).bind fun t495 => (if t495 = true then ((letterbagkit_KeptBytes.f t479 x2).bind fun t496 => (if t496 = true then ((letterbagkit_KeptBytes.f t482 x3).bind fun t497 => (letterbaglaw18_FieldValues.j1 k x0 x1 x2 x3 t479 t482 bt485.1 bt485.2 bt487.1 bt487.2 bt491.1 bt491.2 (!t497))) else (letterbaglaw18_FieldValues.j1 k x0 x1 x2 x3 t479 t482 bt485.1 bt485.2 bt487.1 bt487.2 bt491.1 bt491.2 true))) else (letterbaglaw18_FieldValues.j1 k x0 x1 x2 x3 t479 t482 bt485.1 bt485.2 bt487.1 bt487.2 bt491.1 bt491.2 true)))))))))
def letterbaglaw18_FieldValues.j1 : Nat → List Int → Int → List Int → List Int → List Int → List Int → Int → Int → List Int → Int → List Int → Int → Bool → Option (Bool)
  | 0, _, _, _, _, _, _, _, _, _, _, _, _, _ => none
  | k + 1, x0, x1, x2, x3, x10, x11, x12, x13, x14, x15, x16, x17, x75 => if x75 = true then (some false) else ((letterbagkit_OverBytes.f x10).bind fun _ => ((letterbagkit_OverBytes.f x11).bind fun _ => ((letterbagref18_Error.f k x0 (([x1] : List Int))).bind fun t501 => (if x13 = t501 then (if t501 = 0 then ((letterbagref18_Eval.f k x0 x1).bind fun t502 => (letterbaglaw18_FieldValues.j2 k x0 x2 x3 x14 x15 x16 x17 (x12 != t502))) else (if x12 = 0 then (letterbaglaw18_FieldValues.j2 k x0 x2 x3 x14 x15 x16 x17 false) else (letterbaglaw18_FieldValues.j2 k x0 x2 x3 x14 x15 x16 x17 true))) else (letterbaglaw18_FieldValues.j2 k x0 x2 x3 x14 x15 x16 x17 true)))))
def letterbaglaw18_FieldValues.j2 : Nat → List Int → List Int → List Int → List Int → Int → List Int → Int → Bool → Option (Bool)
  | 0, _, _, _, _, _, _, _, _ => none
  | k + 1, x0, x2, x3, x14, x15, x16, x17, x105 => if x105 = true then (some false) else ((letterbagref18_Error.f k x0 ([] : List Int)).bind fun t503 => (if t503 = 0 then ((letterbagref18_Degree.f k x0).bind fun t504 => (if t504 < 0 then (if x15 = 6 then (if (x14.length : Int) = 0 then (letterbaglaw18_FieldValues.j3 k x2 x3 x16 x17) else (some false)) else (some false)) else (if x15 = 0 then ((letterbagref18_Roots.f k x0).bind fun t505 => ((letterbagkit_SameBytes.f k x14 t505).bind fun t508 => (if t508 = true then (letterbaglaw18_FieldValues.j3 k x2 x3 x16 x17) else (some false)))) else (some false)))) else (if x15 = t503 then (if (x14.length : Int) = 0 then (letterbaglaw18_FieldValues.j3 k x2 x3 x16 x17) else (some false)) else (some false))))
def letterbaglaw18_FieldValues.j3 : Nat → List Int → List Int → List Int → Int → Option (Bool)
  | 0, _, _, _, _ => none
  | k + 1, x2, x3, x16, x17 => (letterbagref18_Error.f k x2 x3).bind fun t509 => (if t509 = 0 then (letterbaglaw18_FieldValues.j4 k x2 x3 x16 x17 t509 ((x2.length : Int) != (x3.length : Int))) else (letterbaglaw18_FieldValues.j4 k x2 x3 x16 x17 t509 false))
def letterbaglaw18_FieldValues.j4 : Nat → List Int → List Int → List Int → Int → Int → Bool → Option (Bool)
  | 0, _, _, _, _, _, _ => none
  | k + 1, x2, x3, x16, x17, x20, x150 => if x150 = true then (letterbaglaw18_FieldValues.j5 k x2 x3 x16 x17 2) else (letterbaglaw18_FieldValues.j5 k x2 x3 x16 x17 x20)
def letterbaglaw18_FieldValues.j5 : Nat → List Int → List Int → List Int → Int → Int → Option (Bool)
  | 0, _, _, _, _, _ => none
  | k + 1, x2, x3, x16, x17, x20 => if x20 = 0 then ((letterbagref18_Through.f k x2 x3).bind fun bt511 => (if bt511.2 = true then (if x17 = 0 then ((letterbagkit_SameBytes.f k x16 bt511.1).bind fun t515 => (if t515 = true then ((letterbaglaw18_awake.f).bind fun t516 => (some t516)) else (some false))) else (some false)) else (if x17 = 2 then (if (x16.length : Int) = 0 then ((letterbaglaw18_awake.f).bind fun t517 => (some t517)) else (some false)) else (some false)))) else (if x17 = x20 then (if (x16.length : Int) = 0 then ((letterbaglaw18_awake.f).bind fun t510 => (some t510)) else (some false)) else (some false))
end
def letterbaglaw18_FieldValues.f (k : Nat) (l0 : List Int) (a1 : Int) (l2 : List Int) (l3 : List Int) : Option (Bool) := if (l0.length : Int) > 200 then (letterbaglaw18_FieldValues.j0 k l0 a1 l2 l3 true) else (if (l2.length : Int) > 200 then (letterbaglaw18_FieldValues.j0 k l0 a1 l2 l3 true) else (letterbaglaw18_FieldValues.j0 k l0 a1 l2 l3 (decide ((l3.length : Int) > 200))))
/-- THE ONE PURE STATEMENT of letterbaglaw18_FieldValues: yours. -/
def letterbaglaw18_FieldValues.Pure : Prop := ∀ (l0 : List Int) (a1 : Int) (l2 : List Int) (l3 : List Int), l0.length ≤ maxLen → l0.length * 1 ≤ 140737488351232 → (∀ x ∈ l0, (Lit.int .u8 x).wf = true) → (Lit.int .u8 a1).wf = true → l2.length ≤ maxLen → l2.length * 1 ≤ 140737488351232 → (∀ x ∈ l2, (Lit.int .u8 x).wf = true) → l3.length ≤ maxLen → l3.length * 1 ≤ 140737488351232 → (∀ x ∈ l3, (Lit.int .u8 x).wf = true) → ∃ k, letterbaglaw18_FieldValues.f k l0 a1 l2 l3 = some true
end Go.Proofs.YtehgfpfmpkmdmaaDoor.Print

namespace Go.Proofs.YtehgfpfmpkmdmaaDoor.Print
open Go.RowKit Go.Proofs.YtehgfpfmpkmdmaaDoorW.PrintWords Go.Proofs.YtehgfpfmpkmdmaaDoorW.PrintLast Go.Proofs.YtehgfpfmpkmdmaaDoorW.PrintMore
attribute [local go_sem] max2_int min2_int max_two min_two max_three min_three max_four min_four   -- for this text's walks alone
set_option linter.unusedVariables false
set_option linter.unusedSimpArgs false
end Go.Proofs.YtehgfpfmpkmdmaaDoor.Print

namespace Go.Proofs.YtehgfpfmpkmdmaaDoor.Print
open Go.RowKit Go.Proofs.YtehgfpfmpkmdmaaDoorW.PrintWords Go.Proofs.YtehgfpfmpkmdmaaDoorW.PrintLast Go.Proofs.YtehgfpfmpkmdmaaDoorW.PrintMore
open Go.Proofs.YtehgfpfmpkmdmaaDoor.Gf
def toF (x : Int) : F := ⟨x.toNat % 64, Nat.mod_lt _ (by decide)⟩
def ofF (a : F) : Int := (a.v : Int)
def IL (p : Poly) : List Int := p.map ofF
theorem toF_ofF (a : F) : toF (ofF a) = a := F.ext (by
  have := a.h
  simp only [toF, ofF]
  omega)
theorem ofF_inj {a b : F} (h : ofF a = ofF b) : a = b := by rw [← toF_ofF a, h, toF_ofF]
theorem ofF_toF {x : Int} (h : elB x = true) : ofF (toF x) = x := by
  rw [elB_iff] at h
  simp only [toF, ofF]
  omega
theorem el_ofF (a : F) : elB (ofF a) = true := by
  have := a.h
  rw [elB_iff]
  unfold ofF
  omega
theorem ofF_zero : ofF 0 = 0 := rfl
theorem ofF_one : ofF 1 = 1 := rfl
theorem ofF_eq_zero {a : F} : ofF a = 0 ↔ a = 0 := ⟨fun h => ofF_inj (h.trans ofF_zero.symm), fun h => by rw [h]; rfl⟩
theorem IL_of {l : List Int} (h : l.all elB = true) : ∃ p : Poly, l = IL p ∧ p.length = l.length := by
  refine ⟨l.map toF, ?_, by simp⟩
  unfold IL
  rw [List.map_map]
  refine (List.map_id l).symm.trans (List.map_congr_left fun x hx => ?_)
  exact (ofF_toF (List.all_eq_true.1 h x hx)).symm
theorem IL_len (p : Poly) : (IL p).length = p.length := by simp [IL]
theorem IL_all (p : Poly) : (IL p).all elB = true := by
  rw [List.all_eq_true]
  intro x hx
  obtain ⟨a, _, rfl⟩ := List.mem_map.1 hx
  exact el_ofF a
theorem rd_IL (p : Poly) (i : Int) : rd (IL p) i = ofF (cf p i.toNat) := by
  simp only [rd, IL, cf, List.getD_eq_getElem?_getD, List.getElem?_map]
  cases p[i.toNat]? <;> rfl
theorem rd_ILn (p : Poly) (i : Nat) : rd (IL p) (i : Int) = ofF (cf p i) := by rw [rd_IL, Int.toNat_natCast]
theorem IL_take (p : Poly) (n : Nat) : (IL p).take n = IL (p.take n) := by simp [IL]
theorem IL_set (p : Poly) (n : Nat) (a : F) : (IL p).set n (ofF a) = IL (p.set n a) := by simp [IL, List.map_set]
theorem mI_ofF (a b : F) : mI (ofF a) (ofF b) = ofF (a * b) := by
  unfold mI ofF
  rw [mul_v]
  simp
theorem bx_ofF (a b : F) : Go.bits .xor .u8 (ofF a) (ofF b) = ofF (a + b) := by
  have := bx_el (el_ofF a) (el_ofF b)
  unfold bx at this
  rw [this]
  unfold ofF
  rw [add_v]
  simp
theorem mul_ofF (a b : F) : field_mul.f (ofF a) (ofF b) = some (ofF (a * b)) := by rw [mul_mI (el_ofF a) (el_ofF b), mI_ofF]
theorem inv_ofF {a : F} (h : a ≠ 0) : field_inv.f (ofF a) = some (ofF (Gf.inv a)) := by
  unfold field_inv.f
  have h1 := a.h
  have h2 := ne_v h
  rw [if_pos (by rw [unitB_iff]; unfold ofF; omega)]
  simp [ofF, Gf.inv]
theorem w64 {x : Int} (h0 : -1000000000000 ≤ x) (h1 : x ≤ 1000000000000) : wrap64 x = x := by unfold wrap64; omega
theorem bad_IL (p : Poly) : (IL p).any badEl = false := by
  rw [List.any_eq_false]
  intro x hx
  have := List.all_eq_true.1 (IL_all p) x hx
  rw [elB_iff] at this
  simp [badEl]
  omega
theorem check_one (p : Poly) (h : p.length ≤ 128) : field_check.f [IL p] = some 0 := by
  unfold field_check.f
  simp [longL, IL_len, bad_IL]
  omega
theorem check_two (p q : Poly) (h : p.length ≤ 128) (h' : q.length ≤ 128) : field_check.f [IL p, IL q] = some 0 := by
  unfold field_check.f
  simp [longL, IL_len, bad_IL]
  omega
theorem clone_f (l : List Int) (h : l.length ≤ 100000) : slices_Clone_uint8_uint8.f l = some l := by
  unfold slices_Clone_uint8_uint8.f
  rw [if_pos (by omega)]
theorem take_tr {p : Poly} {n : Nat} (hz : ∀ i, n + 1 ≤ i → cf p i = 0) (h0 : cf p n ≠ 0) : p.take (n + 1) = tr p := by
  have hn : n < p.length := by
    rcases Nat.lt_or_ge n p.length with h | h
    · exact h
    · exact absurd (cf_ge h) h0
  refine tr_eq_of (fun i => ?_) (.inr ?_)
  · rcases Nat.lt_or_ge i (n + 1) with h | h
    · simp only [cf, List.getD_eq_getElem?_getD, List.getElem?_take]
      rw [if_pos h]
    · rw [hz i h, cf_ge (by rw [List.length_take]; omega)]
  · have hl : (p.take (n + 1)).length - 1 = n := by rw [List.length_take]; omega
    rw [hl]
    have : cf (p.take (n + 1)) n = cf p n := by
      simp only [cf, List.getD_eq_getElem?_getD, List.getElem?_take]
      rw [if_pos (by omega)]
    rw [this]
    exact h0
theorem trim_l (p : Poly) (hp : p.length ≤ 100000) : ∀ (n k : Nat), n ≤ p.length → (∀ i, n ≤ i → cf p i = 0) → n < k → field_trim.l0 k (IL p) (n : Int) = some (IL (tr p))
  | 0, k, _, hz, hk => by
    obtain ⟨k, rfl⟩ : ∃ m, k = m + 1 := ⟨k - 1, by omega⟩
    rw [field_trim.l0, if_neg (by omega), if_pos (by omega), if_pos (by omega)]
    have : tr p = [] := tr_nil_of (fun i => hz i (by omega))
    rw [this]
    rfl
  | n + 1, k, hn, hz, hk => by
    obtain ⟨k, rfl⟩ : ∃ m, k = m + 1 := ⟨k - 1, by omega⟩
    have hw : wrap64 (((n + 1 : Nat) : Int) - 1) = (n : Int) := by rw [w64 (by omega) (by omega)]; omega
    rw [field_trim.l0, if_pos (by omega), hw, if_pos (by omega), if_pos (by rw [IL_len]; omega), rd_ILn]
    by_cases h0 : cf p n = 0
    · rw [if_pos (by rw [h0]; rfl)]
      exact trim_l p hp n k (by omega) (fun i hi => by
        rcases Nat.lt_or_ge n i with h | h
        · exact hz i (by omega)
        · rw [show i = n by omega]; exact h0) (by omega)
    · rw [if_neg (fun h => h0 (ofF_eq_zero.1 h)), if_pos (by omega), if_pos (by rw [IL_len]; omega), Int.toNat_natCast, clone_f _ (by rw [List.length_take, IL_len]; omega), Option.bind_some, IL_take, take_tr hz h0]
theorem trim_f (p : Poly) (hp : p.length ≤ 100000) (k : Nat) (hk : p.length < k) : field_trim.f k (IL p) = some (IL (tr p)) := by
  unfold field_trim.f
  rw [IL_len]
  exact trim_l p hp p.length k (Nat.le_refl _) (fun i hi => cf_ge hi) hk
theorem cf_set (o : Poly) (n : Nat) (a : F) (i : Nat) (hn : n < o.length) : cf (o.set n a) i = if i = n then a else cf o i := by
  simp only [cf, List.getD_eq_getElem?_getD, List.getElem?_set]
  by_cases h : n = i
  · subst h
    simp [hn]
  · rw [if_neg h, if_neg (fun e => h e.symm)]
theorem sum_l (p q : Poly) (hp : p.length ≤ 100000) (hq : q.length ≤ p.length) : ∀ (d i k : Nat) (o : Poly), i + d = q.length → o.length = p.length → (∀ j, cf o j = cf p j + if j < i then cf q j else 0) → d + p.length + 1 < k → field_sumK.l0 k (IL o) (IL q) (q.length : Int) (i : Int) = some (IL (tr (addP p q)))
  | 0, i, k, o, hd, hl, hc, hk => by
    obtain ⟨k, rfl⟩ : ∃ m, k = m + 1 := ⟨k - 1, by omega⟩
    rw [field_sumK.l0, if_neg (by omega), trim_f o (by omega) k (by omega), Option.bind_some]
    congr 2
    refine tr_canon fun j => ?_
    rw [hc j, cf_add]
    by_cases h : j < i
    · rw [if_pos h]
    · rw [if_neg h, cf_ge (p := q) (by omega)]
  | d + 1, i, k, o, hd, hl, hc, hk => by
    obtain ⟨k, rfl⟩ : ∃ m, k = m + 1 := ⟨k - 1, by omega⟩
    rw [field_sumK.l0, if_pos (by omega), if_pos (by omega), if_pos (by rw [IL_len]; omega), if_pos (by rw [IL_len]; omega), rd_ILn, rd_ILn, bx_ofF, Int.toNat_natCast, IL_set, w64 (by omega) (by omega)]
    refine sum_l p q hp hq d (i + 1) k _ (by omega) (by rw [List.length_set]; exact hl) (fun j => ?_) (by omega)
    rw [cf_set _ _ _ _ (by omega)]
    by_cases hj : j = i
    · subst hj
      rw [if_pos rfl, if_pos (by omega), hc j, if_neg (by omega), add_zero]
    · rw [if_neg hj, hc j]
      by_cases h : j < i
      · rw [if_pos h, if_pos (by omega)]
      · rw [if_neg h, if_neg (by omega)]
theorem add_comm_eqv (p q : Poly) : Eqv (addP p q) (addP q p) := fun i => by rw [cf_add, cf_add, add_comm]
theorem sumK_f (p q : Poly) (hp : p.length ≤ 100000) (hq : q.length ≤ p.length) (k : Nat) (hk : q.length + p.length + 1 < k) : field_sumK.f k (IL p) (IL q) = some (IL (tr (addP p q))) := by
  unfold field_sumK.f
  rw [clone_f _ (by rw [IL_len]; exact hp), Option.bind_some, IL_len]
  exact sum_l p q hp hq q.length 0 k p (by omega) rfl (fun j => by rw [if_neg (by omega), add_zero]) (by omega)
theorem sum_f (p q : Poly) (hp : p.length ≤ 100000) (hq : q.length ≤ 100000) : field_sum.f (IL p) (IL q) = some (IL (tr (addP p q))) := by
  unfold field_sum.f
  rw [IL_len, IL_len]
  split
  · rw [sumK_f q p hq (by omega) _ (by omega), tr_canon (add_comm_eqv q p)]
  · exact sumK_f p q hp (by omega) _ (by omega)
def addAtP (o : Poly) (n : Nat) (v : F) : Poly := o.set n (cf o n + v)
def mulRowP (i : Nat) (a : F) : Nat → Poly → Poly → Poly
  | _, [], o => o
  | j, b :: q, o => mulRowP i a (j + 1) q (addAtP o (i + j) (a * b))
def prodRowsP : Nat → Poly → Poly → Poly → Poly
  | _, [], _, o => o
  | i, a :: p, q, o => prodRowsP (i + 1) p q (mulRowP i a 0 q o)
theorem addAt_IL (o : Poly) (n : Nat) (v : F) : addAt (IL o) (n : Int) (ofF v) = IL (addAtP o n v) := by
  unfold addAt addAtP
  rw [rd_ILn, bx_ofF, Int.toNat_natCast, IL_set]
theorem mulRow_IL (i : Nat) (a : F) : ∀ (q o : Poly) (j : Nat), mulRow i (ofF a) j (IL q) (IL o) = IL (mulRowP i a j q o)
  | [], _, _ => rfl
  | b :: q, o, j => by
    rw [show IL (b :: q) = ofF b :: IL q from rfl, mulRow, mI_ofF, addAt_IL, mulRow_IL i a q, mulRowP]
theorem prodRows_IL : ∀ (p q o : Poly) (i : Nat), prodRows i (IL p) (IL q) (IL o) = IL (prodRowsP i p q o)
  | [], _, _, _ => rfl
  | a :: p, q, o, i => by
    rw [show IL (a :: p) = ofF a :: IL p from rfl, prodRows, mulRow_IL, prodRows_IL p q, prodRowsP]
theorem addAtP_len (o : Poly) (n : Nat) (v : F) : (addAtP o n v).length = o.length := by simp [addAtP]
theorem mulRowP_len (i : Nat) (a : F) : ∀ (q o : Poly) (j : Nat), (mulRowP i a j q o).length = o.length
  | [], _, _ => rfl
  | b :: q, o, j => by rw [mulRowP, mulRowP_len i a q, addAtP_len]
theorem prodRowsP_len : ∀ (p q o : Poly) (i : Nat), (prodRowsP i p q o).length = o.length
  | [], _, _, _ => rfl
  | a :: p, q, o, i => by rw [prodRowsP, prodRowsP_len p q, mulRowP_len]
theorem cf_addAtP (o : Poly) (n : Nat) (v : F) (i : Nat) (hn : n < o.length) : cf (addAtP o n v) i = if i = n then cf o i + v else cf o i := by
  unfold addAtP
  rw [cf_set _ _ _ _ hn]
  by_cases h : i = n
  · subst h; simp
  · rw [if_neg h, if_neg h]
theorem cf_mulRowP (i : Nat) (a : F) : ∀ (q o : Poly) (j n : Nat), i + j + q.length ≤ o.length → cf (mulRowP i a j q o) n = cf o n + if i + j ≤ n then a * cf q (n - (i + j)) else 0
  | [], o, j, n, _ => by
    rw [mulRowP, cf_nil, mul_zero]
    split <;> rw [add_zero]
  | b :: q, o, j, n, h => by
    rw [List.length_cons] at h
    rw [mulRowP, cf_mulRowP i a q _ (j + 1) n (by rw [addAtP_len]; omega), cf_addAtP _ _ _ _ (by omega)]
    rcases Nat.lt_trichotomy n (i + j) with h1 | h1 | h1
    · rw [if_neg (by omega), if_neg (by omega), if_neg (by omega)]
    · rw [if_pos h1, if_neg (by omega), if_pos (by omega), add_zero, h1, Nat.sub_self, cf_zero]
    · rw [if_neg (by omega), if_pos (by omega), if_pos (by omega), show n - (i + j) = n - (i + (j + 1)) + 1 by omega, cf_succ]
theorem cf_prodRowsP : ∀ (p q o : Poly) (i n : Nat), i + p.length + q.length ≤ o.length + 1 → cf (prodRowsP i p q o) n = cf o n + if i ≤ n then cf (mulP p q) (n - i) else 0
  | [], q, o, i, n, _ => by
    rw [prodRowsP, mulP, cf_nil]
    split <;> rw [add_zero]
  | a :: p, q, o, i, n, h => by
    rw [List.length_cons] at h
    rw [prodRowsP, cf_prodRowsP p q _ (i + 1) n (by rw [mulRowP_len]; omega), cf_mulRowP _ _ _ _ _ _ (by omega), add_assoc, Nat.add_zero]
    congr 1
    rcases Nat.lt_trichotomy n i with h1 | h1 | h1
    · rw [if_neg (by omega), if_neg (by omega), if_neg (by omega), add_zero]
    · subst h1
      rw [if_pos (by omega), if_neg (by omega), if_pos (by omega), Nat.sub_self, mulP, cf_add, cf_smul, cf_zero]
    · rw [if_pos (by omega), if_pos (by omega), if_pos (by omega), mulP, cf_add, cf_smul, show n - i = n - (i + 1) + 1 by omega, cf_succ]
theorem cf_rep (n i : Nat) : cf (List.replicate n (0 : F)) i = 0 := by
  simp only [cf, List.getD_eq_getElem?_getD, List.getElem?_replicate]
  split <;> rfl
theorem prod_eqv (p q : Poly) : Eqv (prodRowsP 0 p q (List.replicate (p.length + q.length - 1) 0)) (mulP p q) := fun n => by
  rcases Nat.eq_zero_or_pos (p.length + q.length) with h | h
  · obtain rfl : p = [] := List.eq_nil_of_length_eq_zero (by omega)
    rw [prodRowsP, cf_rep, mulP, cf_nil]
  · rw [cf_prodRowsP _ _ _ _ _ (by rw [List.length_replicate]; omega), cf_rep, zero_add, if_pos (by omega), Nat.sub_zero]
theorem tr_len_eq {p : Poly} (h : dg p = p.length) : tr p = p := by
  refine tr_id ?_
  rcases Nat.eq_zero_or_pos p.length with h0 | h0
  · exact .inl (List.eq_nil_of_length_eq_zero h0)
  · exact .inr (by rw [← h]; exact dg_top (by omega))
theorem dg_tr (p : Poly) : dg (tr p) = dg p := dg_eqv (tr_eqv p)
theorem product_f (p q : Poly) (hp : p.length ≤ 100000) (hq : q.length ≤ 100000) : field_product.f (IL p) (IL q) = some (IL (tr (mulP p q))) := by
  unfold field_product.f
  rw [trim_f p hp _ (by rw [IL_len]; omega), Option.bind_some, trim_f q hq _ (by rw [IL_len]; omega), Option.bind_some, IL_len, IL_len]
  by_cases h0 : (tr p).length = 0
  · rw [if_pos h0, tr_nil_of (mul_nil (.inl (dg_zero h0)))]
    rfl
  · rw [if_neg h0]
    by_cases h1 : (tr q).length = 0
    · rw [if_pos h1, tr_nil_of (mul_nil (.inr (dg_zero h1)))]
      rfl
    · have l0 := tr_len p
      have l1 := tr_len q
      rw [if_neg h1, if_pos (by simp only [IL_all, Bool.true_and, Bool.and_eq_true, decide_eq_true_eq]; omega)]
      unfold prodI
      rw [IL_len, IL_len, show List.replicate ((tr p).length + (tr q).length - 1) (0 : Int) = IL (List.replicate ((tr p).length + (tr q).length - 1) 0) by simp [IL, ofF_zero], prodRows_IL]
      congr 2
      have e1 := prod_eqv (tr p) (tr q)
      have e2 : Eqv (mulP (tr p) (tr q)) (mulP p q) := mul_eqv (tr_eqv p) (tr_eqv q)
      rw [← tr_canon (e1.trans e2)]
      refine (tr_len_eq ?_).symm
      rw [dg_eqv (e1.trans e2), dg_mul (by unfold dg; omega) (by unfold dg; omega), prodRowsP_len, List.length_replicate]
      rfl
theorem horn_IL (x : F) : ∀ p : Poly, hornL (ofF x) (IL p) = ofF (ev p x)
  | [] => rfl
  | a :: p => by
    rw [show IL (a :: p) = ofF a :: IL p from rfl, hornL, horn_IL x p, mI_ofF]
    unfold bx
    rw [bx_ofF, ev, mul_comm, add_comm]
theorem eval_f (p : Poly) (x : F) : field_eval.f (IL p) (ofF x) = some (ofF (ev p x)) := by
  unfold field_eval.f
  rw [if_pos (by rw [IL_all, el_ofF]; rfl), horn_IL]
theorem same_l (l : List Int) (hl : l.length ≤ 100000) : ∀ (d i k : Nat), i + d = l.length → d < k → letterbagkit_SameBytes.l0 k l l (i : Int) = some true
  | 0, i, k, h, hk => by
    obtain ⟨k, rfl⟩ : ∃ m, k = m + 1 := ⟨k - 1, by omega⟩
    rw [letterbagkit_SameBytes.l0, if_neg (by omega)]
  | d + 1, i, k, h, hk => by
    obtain ⟨k, rfl⟩ : ∃ m, k = m + 1 := ⟨k - 1, by omega⟩
    rw [letterbagkit_SameBytes.l0, if_pos (by omega), if_pos (by omega), if_pos (by omega), if_pos rfl, w64 (by omega) (by omega)]
    exact same_l l hl d (i + 1) k (by omega) (by omega)
theorem same_f (l : List Int) (hl : l.length ≤ 100000) (k : Nat) (hk : l.length < k) : letterbagkit_SameBytes.f k l l = some true := by
  unfold letterbagkit_SameBytes.f
  rw [if_pos rfl]
  exact same_l l hl l.length 0 k (by omega) hk
end Go.Proofs.YtehgfpfmpkmdmaaDoor.Print

namespace Go.Proofs.YtehgfpfmpkmdmaaDoor.Print
open Go.RowKit Go.Proofs.YtehgfpfmpkmdmaaDoorW.PrintWords Go.Proofs.YtehgfpfmpkmdmaaDoorW.PrintLast Go.Proofs.YtehgfpfmpkmdmaaDoorW.PrintMore
attribute [local go_sem] max2_int min2_int max_two min_two max_three min_three max_four min_four   -- for this text's walks alone
set_option linter.unusedVariables false
set_option linter.unusedSimpArgs false
end Go.Proofs.YtehgfpfmpkmdmaaDoor.Print

namespace Go.Proofs.YtehgfpfmpkmdmaaDoor.Print
open Go.RowKit Go.Proofs.YtehgfpfmpkmdmaaDoorW.PrintWords Go.Proofs.YtehgfpfmpkmdmaaDoorW.PrintLast Go.Proofs.YtehgfpfmpkmdmaaDoorW.PrintMore
attribute [local go_sem] max2_int min2_int max_two min_two max_three min_three max_four min_four   -- for this text's walks alone
set_option linter.unusedVariables false
set_option linter.unusedSimpArgs false
end Go.Proofs.YtehgfpfmpkmdmaaDoor.Print

namespace Go.Proofs.YtehgfpfmpkmdmaaDoor.Print
open Go.RowKit Go.Proofs.YtehgfpfmpkmdmaaDoorW.PrintWords Go.Proofs.YtehgfpfmpkmdmaaDoorW.PrintLast Go.Proofs.YtehgfpfmpkmdmaaDoorW.PrintMore
open Go.Proofs.YtehgfpfmpkmdmaaDoor.Gf
theorem refMul_all : (List.range 64).all (fun a => (List.range 64).all fun b => letterbagref18_Mul.f 20 (a : Int) (b : Int) == some ((ml a b : Nat) : Int)) = true := by decide +kernel
theorem refMul_f (a b : F) (k : Nat) (hk : 20 ≤ k) : letterbagref18_Mul.f k (ofF a) (ofF b) = some (ofF (a * b)) := by
  refine at_rounds (g := fun k => letterbagref18_Mul.f k (ofF a) (ofF b)) (fun k => letterbagref18_Mul.mono _ _ k) hk ?_
  have h1 := List.all_eq_true.1 refMul_all a.v (by simpa using a.h)
  have h2 := List.all_eq_true.1 h1 b.v (by simpa using b.h)
  simpa [ofF, mul_v] using h2
/-- Elements, by their numbers. -/
def el (n : Nat) : F := ⟨n % 64, Nat.mod_lt _ (by decide)⟩
theorem ofF_el {n : Nat} (h : n < 64) : ofF (el n) = (n : Int) := by simp [ofF, el, Nat.mod_eq_of_lt h]
theorem el_v (a : F) : el a.v = a := F.ext (Nat.mod_eq_of_lt a.h)
theorem mul_eq_one {a x : F} (h : a * x = 1) : x = Gf.inv a := by
  have ha : a ≠ 0 := fun e => by rw [e, zero_mul] at h; exact absurd h (by decide)
  exact mul_cancel ha (h.trans (mul_inv ha).symm)
theorem refInv_l (a : F) (ha : a ≠ 0) : ∀ (d n k : Nat), n + d = (Gf.inv a).v → d + 30 ≤ k → letterbagref18_Inv.l0 k (ofF a) (n : Int) = some (ofF (Gf.inv a))
  | 0, n, k, h, hk => by
    obtain ⟨k, rfl⟩ : ∃ m, k = m + 1 := ⟨k - 1, by omega⟩
    have hi := (Gf.inv a).h
    have e : ofF (el n) = (n : Int) := ofF_el (by omega)
    have e2 : el n = Gf.inv a := by rw [show n = (Gf.inv a).v by omega, el_v]
    rw [letterbagref18_Inv.l0, if_pos (by omega), ← e, refMul_f a (el n) k (by omega), Option.bind_some, e2, mul_inv ha, if_pos (by rfl)]
  | d + 1, n, k, h, hk => by
    obtain ⟨k, rfl⟩ : ∃ m, k = m + 1 := ⟨k - 1, by omega⟩
    have hi := (Gf.inv a).h
    have e : ofF (el n) = (n : Int) := ofF_el (by omega)
    rw [letterbagref18_Inv.l0, if_pos (by omega), ← e, refMul_f a (el n) k (by omega), Option.bind_some, if_neg, e, show (((n : Int) + 1) % 256) = ((n + 1 : Nat) : Int) by omega]
    · exact refInv_l a ha d (n + 1) k (by omega) (by omega)
    · intro he
      have h1 : a * el n = 1 := ofF_inj (he.trans ofF_one.symm)
      have h2 := congrArg F.v (mul_eq_one h1)
      simp only [el] at h2
      omega
theorem inv_ne (a : F) : (Gf.inv a).v ≠ 0 := iv_ne a.v
theorem refInv_f (a : F) (ha : a ≠ 0) (k : Nat) (hk : 100 ≤ k) : letterbagref18_Inv.f k (ofF a) = some (ofF (Gf.inv a)) := by
  have h1 := inv_ne a
  have h2 := (Gf.inv a).h
  unfold letterbagref18_Inv.f
  exact refInv_l a ha ((Gf.inv a).v - 1) 1 k (by omega) (by omega)
end Go.Proofs.YtehgfpfmpkmdmaaDoor.Print

namespace Go.Proofs.YtehgfpfmpkmdmaaDoor.Print
open Go.RowKit Go.Proofs.YtehgfpfmpkmdmaaDoorW.PrintWords Go.Proofs.YtehgfpfmpkmdmaaDoorW.PrintLast Go.Proofs.YtehgfpfmpkmdmaaDoorW.PrintMore
open Go.Proofs.YtehgfpfmpkmdmaaDoor.Gf
theorem len_dg (p : Poly) : (tr p).length = dg p := rfl
end Go.Proofs.YtehgfpfmpkmdmaaDoor.Print

namespace Go.Proofs.YtehgfpfmpkmdmaaDoor.Print
open Go.RowKit Go.Proofs.YtehgfpfmpkmdmaaDoorW.PrintWords Go.Proofs.YtehgfpfmpkmdmaaDoorW.PrintLast Go.Proofs.YtehgfpfmpkmdmaaDoorW.PrintMore
attribute [local go_sem] max2_int min2_int max_two min_two max_three min_three max_four min_four   -- for this text's walks alone
set_option linter.unusedVariables false
set_option linter.unusedSimpArgs false
end Go.Proofs.YtehgfpfmpkmdmaaDoor.Print

namespace Go.Proofs.YtehgfpfmpkmdmaaDoor.Print
open Go.RowKit Go.Proofs.YtehgfpfmpkmdmaaDoorW.PrintWords Go.Proofs.YtehgfpfmpkmdmaaDoorW.PrintLast Go.Proofs.YtehgfpfmpkmdmaaDoorW.PrintMore
attribute [local go_sem] max2_int min2_int max_two min_two max_three min_three max_four min_four   -- for this text's walks alone
set_option linter.unusedVariables false
set_option linter.unusedSimpArgs false
end Go.Proofs.YtehgfpfmpkmdmaaDoor.Print

namespace Go.Proofs.YtehgfpfmpkmdmaaDoor.Print
open Go.RowKit Go.Proofs.YtehgfpfmpkmdmaaDoorW.PrintWords Go.Proofs.YtehgfpfmpkmdmaaDoorW.PrintLast Go.Proofs.YtehgfpfmpkmdmaaDoorW.PrintMore
open Go.Proofs.YtehgfpfmpkmdmaaDoor.Gf
theorem check_eval (p : Poly) (x : F) (h : p.length ≤ 128) : field_check.f [IL p, [ofF x]] = some 0 := check_two p [x] h (by simp)
theorem Eval_f (p : Poly) (hp : p.length ≤ 128) (x : F) : field_Eval.f (IL p) (ofF x) = some (ofF (ev p x), 0) := by
  unfold field_Eval.f
  rw [check_eval p x hp, Option.bind_some, if_pos rfl, eval_f, Option.bind_some]
theorem len_of_tr {p : Poly} (h : tr p = p) : p.length = dg p := by rw [← len_dg, h]
theorem mul_dg_le (p q : Poly) : dg (mulP p q) ≤ p.length + q.length := by
  have lp := dg_len p
  have lq := dg_len q
  rcases Nat.eq_zero_or_pos (dg p) with h | h
  · have := dg_eqv (mul_nil (q := q) (.inl (dg_zero h)))
    rw [this]
    exact Nat.zero_le _
  · rcases Nat.eq_zero_or_pos (dg q) with h' | h'
    · have := dg_eqv (mul_nil (p := p) (.inr (dg_zero h')))
      rw [this]
      exact Nat.zero_le _
    · rw [dg_mul h h']
      omega
end Go.Proofs.YtehgfpfmpkmdmaaDoor.Print

namespace Go.Proofs.YtehgfpfmpkmdmaaDoor.Print
open Go.RowKit Go.Proofs.YtehgfpfmpkmdmaaDoorW.PrintWords Go.Proofs.YtehgfpfmpkmdmaaDoorW.PrintLast Go.Proofs.YtehgfpfmpkmdmaaDoorW.PrintMore
open Go.Proofs.YtehgfpfmpkmdmaaDoor.Gf
theorem any_dropR {l : List Int} {i : Nat} (h : i < l.length) (f : Int → Bool) : (l.drop i).any f = (f (rd l (i : Int)) || (l.drop (i + 1)).any f) := by
  rw [List.drop_eq_getElem_cons h, List.any_cons]
  congr 2
  simp [rd, List.getD_eq_getElem?_getD, List.getElem?_eq_getElem h]
theorem rErr1 (l : List Int) (hl : l.length ≤ 100000) : ∀ (d i k : Nat), i + d = l.length → d < k → letterbagref18_Error.l1 k l (i : Int) = some (if (l.drop i).any badEl then 2 else 0) := by
  intro d
  induction d with
  | zero =>
    intro i k h hk
    obtain ⟨k, rfl⟩ : ∃ k', k = k' + 1 := ⟨k - 1, by omega⟩
    rw [letterbagref18_Error.l1, if_neg (by omega), List.drop_eq_nil_of_le (by omega)]
    rfl
  | succ d ih =>
    intro i k h hk
    obtain ⟨k, rfl⟩ : ∃ k', k = k' + 1 := ⟨k - 1, by omega⟩
    rw [letterbagref18_Error.l1, if_pos (by omega), if_pos (by omega), any_dropR (by omega)]
    by_cases hb : rd l (i : Int) > 63
    · rw [if_pos hb, show badEl (rd l (i : Int)) = true from decide_eq_true (by omega)]
      rfl
    · rw [if_neg hb, show badEl (rd l (i : Int)) = false from decide_eq_false (by omega), w64 (by omega) (by omega), Bool.false_or]
      exact ih (i + 1) k (by omega) (by omega)
theorem rErr0 (l m : List Int) (hl : l.length ≤ 100000) (hm : m.length ≤ 100000) : ∀ (d i k : Nat), i + d = l.length → d + m.length + 1 < k → letterbagref18_Error.l0 k l m (i : Int) = some (if (l.drop i).any badEl then 2 else if m.any badEl then 2 else 0) := by
  intro d
  induction d with
  | zero =>
    intro i k h hk
    obtain ⟨k, rfl⟩ : ∃ k', k = k' + 1 := ⟨k - 1, by omega⟩
    rw [letterbagref18_Error.l0, if_neg (by omega), List.drop_eq_nil_of_le (by omega)]
    exact rErr1 m hm m.length 0 k (by omega) (by omega)
  | succ d ih =>
    intro i k h hk
    obtain ⟨k, rfl⟩ : ∃ k', k = k' + 1 := ⟨k - 1, by omega⟩
    rw [letterbagref18_Error.l0, if_pos (by omega), if_pos (by omega), any_dropR (by omega)]
    by_cases hb : rd l (i : Int) > 63
    · rw [if_pos hb, show badEl (rd l (i : Int)) = true from decide_eq_true (by omega)]
      rfl
    · rw [if_neg hb, show badEl (rd l (i : Int)) = false from decide_eq_false (by omega), w64 (by omega) (by omega), Bool.false_or]
      exact ih (i + 1) k (by omega) (by omega)
theorem rErr (l m : List Int) (hl : l.length ≤ 1000) (hm : m.length ≤ 1000) (k : Nat) (hk : 3000 ≤ k) :
    letterbagref18_Error.f k l m = some (if 128 < l.length ∨ 128 < m.length then 3 else if l.any badEl then 2 else if m.any badEl then 2 else 0) := by
  obtain ⟨k, rfl⟩ : ∃ k', k = k' + 1 := ⟨k - 1, by omega⟩
  unfold letterbagref18_Error.f
  by_cases h1 : 128 < l.length
  · rw [if_pos (by omega), letterbagref18_Error.j0, if_pos rfl, if_pos (.inl h1)]
  · rw [if_neg (by omega)]
    by_cases h2 : 128 < m.length
    · rw [show decide ((m.length : Int) > 128) = true from decide_eq_true (by omega), letterbagref18_Error.j0, if_pos rfl, if_pos (.inr h2)]
    · rw [show decide ((m.length : Int) > 128) = false from decide_eq_false (by omega), letterbagref18_Error.j0, if_neg (by decide), if_neg (by omega)]
      exact rErr0 l m (by omega) (by omega) l.length 0 k (by omega) (by omega)
/-- The reference's error is the program's. -/
theorem err_two (l m : List Int) : field_check.f [l, m] = some (if 128 < l.length ∨ 128 < m.length then 3 else if l.any badEl then 2 else if m.any badEl then 2 else 0) := by
  unfold field_check.f
  congr 1
  simp only [List.any_cons, List.any_nil, Bool.or_false, longL]
  by_cases h1 : 128 < l.length <;> by_cases h2 : 128 < m.length <;> cases l.any badEl <;> cases m.any badEl <;> simp [h1, h2]
theorem err_one (l : List Int) : field_check.f [l] = some (if 128 < l.length then 3 else if l.any badEl then 2 else 0) := by
  unfold field_check.f
  congr 1
  simp only [List.any_cons, List.any_nil, Bool.or_false, longL]
  by_cases h1 : 128 < l.length <;> cases l.any badEl <;> simp [h1]
/-- A list without error is a polynomial. -/
theorem poly_of {l : List Int} (hb : l.any badEl = false) (h0 : ∀ x ∈ l, 0 ≤ x) : ∃ p : Poly, l = IL p ∧ p.length = l.length := by
  refine IL_of (List.all_eq_true.2 fun x hx => ?_)
  have h1 : badEl x = false := by
    cases e : badEl x
    · rfl
    · exact absurd (List.any_eq_true.2 ⟨x, hx, e⟩) (by rw [hb]; decide)
  have h2 : ¬ x ≥ 64 := of_decide_eq_false h1
  have h3 := h0 x hx
  unfold elB
  simp
  omega
theorem cf_take (p : Poly) (n j : Nat) : cf (p.take n) j = if j < n then cf p j else 0 := by
  simp only [cf, List.getD_eq_getElem?_getD, List.getElem?_take]
  by_cases h : j < n
  · simp [h]
  · simp [h]
theorem dg_take_succ (p : Poly) (i : Nat) : dg (p.take (i + 1)) = if cf p i = 0 then dg (p.take i) else i + 1 := by
  by_cases h : cf p i = 0
  · rw [if_pos h]
    refine dg_eqv fun j => ?_
    rw [cf_take, cf_take]
    by_cases h1 : j < i
    · rw [if_pos (by omega), if_pos h1]
    · rw [if_neg h1]
      by_cases h2 : j < i + 1
      · rw [if_pos h2, show j = i by omega, h]
      · rw [if_neg h2]
  · rw [if_neg h]
    refine dg_eq (fun j hj => ?_) ?_
    · rw [cf_take, if_neg (by omega)]
    · rw [cf_take, if_pos (by omega)]
      exact h
theorem rDeg_l (p : Poly) (hp : p.length ≤ 100000) : ∀ (d i k : Nat), i + d = p.length → d < k → letterbagref18_Degree.l0 k (IL p) ((dg (p.take i) : Int) - 1) (i : Int) = some ((dg p : Int) - 1) := by
  intro d
  induction d with
  | zero =>
    intro i k h hk
    obtain ⟨k, rfl⟩ : ∃ k', k = k' + 1 := ⟨k - 1, by omega⟩
    rw [letterbagref18_Degree.l0, if_neg (by rw [IL_len]; omega), List.take_of_length_le (by omega)]
  | succ d ih =>
    intro i k h hk
    obtain ⟨k, rfl⟩ : ∃ k', k = k' + 1 := ⟨k - 1, by omega⟩
    have hi := ih (i + 1) k (by omega) (by omega)
    rw [dg_take_succ] at hi
    rw [letterbagref18_Degree.l0, if_pos (by rw [IL_len]; omega), if_pos (by omega), rd_ILn, w64 (by omega) (by omega)]
    by_cases hz : cf p i = 0
    · rw [if_pos (by rw [hz]; rfl)]
      rw [if_pos hz] at hi
      exact hi
    · rw [if_neg (fun e => hz (ofF_eq_zero.1 e))]
      rw [if_neg hz] at hi
      simpa using hi
theorem rDeg (p : Poly) (hp : p.length ≤ 100000) (k : Nat) (hk : p.length < k) : letterbagref18_Degree.f k (IL p) = some ((dg p : Int) - 1) :=
  rDeg_l p hp p.length 0 k (by omega) hk
theorem take_dg (p : Poly) : p.take (dg p) = tr p := by
  rcases Nat.eq_zero_or_pos (dg p) with h | h
  · rw [h, List.take_zero]
    exact (List.eq_nil_of_length_eq_zero h).symm
  · have := take_tr (p := p) (n := dg p - 1) (fun i hi => dg_ge (by omega)) (dg_top h)
    rwa [show dg p - 1 + 1 = dg p by omega] at this
theorem IL_app (p : Poly) (a : F) : IL p ++ [ofF a] = IL (p ++ [a]) := by simp [IL]
theorem take_app (p : Poly) (i : Nat) (h : i < p.length) : p.take i ++ [cf p i] = p.take (i + 1) := by
  rw [cf_get h, List.take_add_one, List.getElem?_eq_getElem h]
  rfl
theorem rTrim_l (p : Poly) (hp : p.length ≤ 100000) : ∀ (d i k : Nat), i + d = dg p → d + p.length + 1 < k → letterbagref18_Trim.l0 k (IL p) (IL (p.take i)) (i : Int) = some (IL (tr p)) := by
  have hd := dg_len p
  intro d
  induction d with
  | zero =>
    intro i k h hk
    obtain ⟨k, rfl⟩ : ∃ k', k = k' + 1 := ⟨k - 1, by omega⟩
    rw [letterbagref18_Trim.l0, rDeg p hp k (by omega), Option.bind_some, if_neg (by omega), show i = dg p by omega, take_dg]
  | succ d ih =>
    intro i k h hk
    obtain ⟨k, rfl⟩ : ∃ k', k = k' + 1 := ⟨k - 1, by omega⟩
    rw [letterbagref18_Trim.l0, rDeg p hp k (by omega), Option.bind_some, if_pos (by omega), if_pos (by omega), if_pos (by rw [IL_len]; omega), if_pos (by rw [IL_len, List.length_take]; omega), rd_ILn, w64 (by omega) (by omega), IL_app, take_app p i (by omega)]
    exact ih (i + 1) k (by omega) (by omega)
theorem rTrim (p : Poly) (hp : p.length ≤ 100000) (k : Nat) (hk : 2 * p.length + 1 < k) : letterbagref18_Trim.f k (IL p) = some (IL (tr p)) := by
  have hd := dg_len p
  exact rTrim_l p hp (dg p) 0 k (by omega) (by omega)
def upTo (c : Nat → F) (n : Nat) : Poly := (List.range n).map c
theorem upTo_succ (c : Nat → F) (n : Nat) : upTo c n ++ [c n] = upTo c (n + 1) := by simp [upTo, List.range_succ]
theorem upTo_len (c : Nat → F) (n : Nat) : (upTo c n).length = n := by simp [upTo]
theorem cf_upTo (c : Nat → F) (n j : Nat) : cf (upTo c n) j = if j < n then c j else 0 := by
  by_cases h : j < n
  · rw [if_pos h]
    simp [cf, upTo, List.getD_eq_getElem?_getD, List.getElem?_range h]
  · rw [if_neg h]
    exact cf_ge (by rw [upTo_len]; omega)
theorem coef_f (p : Poly) (i : Nat) : letterbagref18_coef.f (IL p) (i : Int) = some (ofF (cf p i)) := by
  unfold letterbagref18_coef.f
  rw [if_neg (by omega), IL_len]
  by_cases h : i < p.length
  · rw [if_neg (by omega), if_pos (by omega), if_pos (by omega), rd_ILn]
  · rw [if_pos (by omega), cf_ge (by omega)]
    rfl
theorem rSum_l (p q : Poly) (hp : p.length ≤ 100000) (hq : q.length ≤ 100000) (N : Nat) (hN : N = max p.length q.length) : ∀ (d i k : Nat), i + d = N → 2 * d + 2 * N + 10 < k → letterbagref18_Sum.l0 k (IL p) (IL q) (IL (upTo (fun j => cf p j + cf q j) i)) (i : Int) = some (IL (tr (addP p q))) := by
  intro d
  induction d with
  | zero =>
    intro i k h hk
    obtain ⟨k, rfl⟩ : ∃ k', k = k' + 1 + 1 := ⟨k - 2, by omega⟩
    rw [letterbagref18_Sum.l0, if_neg (by rw [IL_len]; omega), show decide ((i : Int) < ((IL q).length : Int)) = false from decide_eq_false (by rw [IL_len]; omega), letterbagref18_Sum.j1, if_neg (by decide), rTrim _ (by rw [upTo_len]; omega) k (by rw [upTo_len]; omega), Option.bind_some]
    congr 2
    refine tr_canon fun j => ?_
    rw [cf_upTo, cf_add]
    by_cases hj : j < i
    · rw [if_pos hj]
    · rw [if_neg hj, cf_ge (p := p) (by omega), cf_ge (p := q) (by omega), add_zero]
  | succ d ih =>
    intro i k h hk
    obtain ⟨k, rfl⟩ : ∃ k', k = k' + 1 + 1 := ⟨k - 2, by omega⟩
    have step : letterbagref18_Sum.j1 (k + 1) (IL p) (IL q) (IL (upTo (fun j => cf p j + cf q j) i)) (i : Int) true = some (IL (tr (addP p q))) := by
      rw [letterbagref18_Sum.j1, if_pos rfl, coef_f, Option.bind_some, coef_f, Option.bind_some, if_pos (by rw [IL_len, upTo_len]; omega), bx_ofF, IL_app, w64 (by omega) (by omega), upTo_succ (fun j => cf p j + cf q j)]
      exact ih (i + 1) k (by omega) (by omega)
    rw [letterbagref18_Sum.l0]
    by_cases h1 : (i : Int) < ((IL p).length : Int)
    · rw [if_pos h1]
      exact step
    · rw [if_neg h1, show decide ((i : Int) < ((IL q).length : Int)) = true from decide_eq_true (by rw [IL_len] at h1 ⊢; omega)]
      exact step
theorem rSum (p q : Poly) (hp : p.length ≤ 100000) (hq : q.length ≤ 100000) (k : Nat) (hk : 4 * (p.length + q.length) + 10 < k) : letterbagref18_Sum.f k (IL p) (IL q) = some (IL (tr (addP p q))) :=
  rSum_l p q hp hq _ rfl (max p.length q.length) 0 k (by omega) (by omega)
theorem rProd_1 (p q : Poly) (i : Nat) (hi : i ≤ 1000) (R : Option (List Int)) (out : List Int) : ∀ (d j k : Nat), j + d = i + 1 → d + 25 < k →
    (∀ k', k ≤ k' + d + 1 → (if out.length < 140737488355328 then (letterbagref18_Product.l0 k' (IL p) (IL q) (out ++ [ofF (cf (mulP p q) i)]) (wrap64 ((i : Int) + 1))) else none) = R) →
    letterbagref18_Product.l1 k (IL p) (IL q) out (i : Int) (ofF (sn (fun k => cf p k * cf q (i - k)) j)) (j : Int) = R := by
  intro d
  induction d with
  | zero =>
    intro j k h hk hR
    obtain ⟨k, rfl⟩ : ∃ k', k = k' + 1 := ⟨k - 1, by omega⟩
    rw [letterbagref18_Product.l1, if_neg (by omega), ← hR k (by omega), cf_mul, show j = i + 1 by omega]
  | succ d ih =>
    intro j k h hk hR
    obtain ⟨k, rfl⟩ : ∃ k', k = k' + 1 := ⟨k - 1, by omega⟩
    have e : wrap64 ((i : Int) - (j : Int)) = ((i - j : Nat) : Int) := by rw [w64 (by omega) (by omega)]; omega
    rw [letterbagref18_Product.l1, if_pos (by omega), coef_f, Option.bind_some, e, coef_f, Option.bind_some, refMul_f _ _ k (by omega), Option.bind_some, bx_ofF, w64 (by omega) (by omega)]
    exact ih (j + 1) k (by omega) (by omega) (fun k' hk' => hR k' (by omega))
theorem rProd_0 (p q : Poly) (hp : p.length ≤ 300) (hq : q.length ≤ 300) (N : Nat) (hN : N = dg p + dg q - 1) : ∀ (d i k : Nat), i + d = N → 1000 * d + 3000 < k →
    letterbagref18_Product.l0 k (IL p) (IL q) (IL (upTo (cf (mulP p q)) i)) (i : Int) = some (IL (tr (mulP p q))) := by
  have lp := dg_len p
  have lq := dg_len q
  intro d
  induction d with
  | zero =>
    intro i k h hk
    obtain ⟨k, rfl⟩ : ∃ k', k = k' + 1 := ⟨k - 1, by omega⟩
    rw [letterbagref18_Product.l0, rDeg p (by omega) k (by omega), Option.bind_some, rDeg q (by omega) k (by omega), Option.bind_some, w64 (by omega) (by omega), if_neg (by omega), rTrim _ (by rw [upTo_len]; omega) k (by rw [upTo_len]; omega), Option.bind_some]
    congr 2
    refine tr_canon fun j => ?_
    rw [cf_upTo]
    by_cases hj : j < i
    · rw [if_pos hj]
    · rw [if_neg hj]
      rcases Nat.eq_zero_or_pos (dg p) with h1 | h1
      · exact ((mul_nil (q := q) (.inl (dg_zero h1))) j).symm
      · rcases Nat.eq_zero_or_pos (dg q) with h2 | h2
        · exact ((mul_nil (p := p) (.inr (dg_zero h2))) j).symm
        · exact (mul_above (m := dg p - 1) (n := dg q - 1) (fun a ha => dg_ge (by omega)) (fun a ha => dg_ge (by omega)) (by omega)).symm
  | succ d ih =>
    intro i k h hk
    obtain ⟨k, rfl⟩ : ∃ k', k = k' + 1 := ⟨k - 1, by omega⟩
    rw [letterbagref18_Product.l0, rDeg p (by omega) k (by omega), Option.bind_some, rDeg q (by omega) k (by omega), Option.bind_some, w64 (by omega) (by omega), if_pos (by omega)]
    refine rProd_1 p q i (by omega) _ _ (i + 1) 0 k (by omega) (by omega) fun k' hk' => ?_
    rw [if_pos (by rw [IL_len, upTo_len]; omega), IL_app, w64 (by omega) (by omega), upTo_succ (cf (mulP p q))]
    exact ih (i + 1) k' (by omega) (by omega)
theorem rProd (p q : Poly) (hp : p.length ≤ 300) (hq : q.length ≤ 300) (k : Nat) (hk : 700000 ≤ k) : letterbagref18_Product.f k (IL p) (IL q) = some (IL (tr (mulP p q))) := by
  have lp := dg_len p
  have lq := dg_len q
  exact rProd_0 p q hp hq _ rfl (dg p + dg q - 1) 0 k (by omega) (by omega)
end Go.Proofs.YtehgfpfmpkmdmaaDoor.Print

namespace Go.Proofs.YtehgfpfmpkmdmaaDoor.Print
open Go.RowKit Go.Proofs.YtehgfpfmpkmdmaaDoorW.PrintWords Go.Proofs.YtehgfpfmpkmdmaaDoorW.PrintLast Go.Proofs.YtehgfpfmpkmdmaaDoorW.PrintMore
attribute [local go_sem] max2_int min2_int max_two min_two max_three min_three max_four min_four   -- for this text's walks alone
set_option linter.unusedVariables false
set_option linter.unusedSimpArgs false
end Go.Proofs.YtehgfpfmpkmdmaaDoor.Print

namespace Go.Proofs.YtehgfpfmpkmdmaaDoor.Print
open Go.RowKit Go.Proofs.YtehgfpfmpkmdmaaDoorW.PrintWords Go.Proofs.YtehgfpfmpkmdmaaDoorW.PrintLast Go.Proofs.YtehgfpfmpkmdmaaDoorW.PrintMore
open Go.Proofs.YtehgfpfmpkmdmaaDoor.Gf
def sh (n : Nat) (c : F) (q : Poly) : Poly := List.replicate n 0 ++ q.map (· * c)
theorem sh_len (n : Nat) (c : F) (q : Poly) : (sh n c q).length = n + q.length := by simp [sh]
theorem cf_sh (n : Nat) (c : F) (q : Poly) (j : Nat) : cf (sh n c q) j = if n ≤ j then cf q (j - n) * c else 0 := by
  simp only [sh, cf, List.getD_eq_getElem?_getD]
  by_cases h : n ≤ j
  · rw [if_pos h, List.getElem?_append_right (by simpa using h), List.length_replicate, List.getElem?_map]
    cases q[j - n]? with
    | none => exact (zero_mul c).symm
    | some a => rfl
  · rw [if_neg h, List.getElem?_append_left (by simpa using h), List.getElem?_replicate, if_pos (by omega)]
    rfl
theorem IL_rep (n : Nat) : List.replicate n (0 : Int) = IL (List.replicate n 0) := by
  simp only [IL, List.map_replicate, ofF_zero]
theorem rShift_l (q : Poly) (c : F) (n : Nat) (hn : n ≤ 1000) (hq : q.length ≤ 1000) : ∀ (d i k : Nat), i + d = q.length → d + 30 < k →
    letterbagref18_Shift.l0 k (IL q) (ofF c) (IL (List.replicate n 0 ++ (q.take i).map (· * c))) (i : Int) = some (IL (sh n c q)) := by
  intro d
  induction d with
  | zero =>
    intro i k h hk
    obtain ⟨k, rfl⟩ : ∃ k', k = k' + 1 := ⟨k - 1, by omega⟩
    rw [letterbagref18_Shift.l0, if_neg (by rw [IL_len]; omega), List.take_of_length_le (by omega)]
    rfl
  | succ d ih =>
    intro i k h hk
    obtain ⟨k, rfl⟩ : ∃ k', k = k' + 1 := ⟨k - 1, by omega⟩
    have e : (q.take i).map (· * c) ++ [cf q i * c] = (q.take (i + 1)).map (· * c) := by
      rw [← take_app q i (by omega), List.map_append]
      rfl
    rw [letterbagref18_Shift.l0, if_pos (by rw [IL_len]; omega), if_pos (by omega), rd_ILn, refMul_f _ _ k (by omega), Option.bind_some, if_pos (by rw [IL_len]; simp; omega), IL_app, List.append_assoc, e, w64 (by omega) (by omega)]
    exact ih (i + 1) k (by omega) (by omega)
theorem rShift (q : Poly) (c : F) (n : Nat) (hn : n ≤ 1000) (hq : q.length ≤ 1000) (k : Nat) (hk : q.length + 30 < k) : letterbagref18_Shift.f k (IL q) (ofF c) (n : Int) = some (IL (sh n c q)) := by
  unfold letterbagref18_Shift.f
  rw [if_pos (by omega), if_pos (by omega), Int.toNat_natCast, IL_rep]
  have := rShift_l q c n hn hq q.length 0 k (by omega) hk
  simpa using this
end Go.Proofs.YtehgfpfmpkmdmaaDoor.Print

namespace Go.Proofs.YtehgfpfmpkmdmaaDoor.Print
open Go.RowKit Go.Proofs.YtehgfpfmpkmdmaaDoorW.PrintWords Go.Proofs.YtehgfpfmpkmdmaaDoorW.PrintLast Go.Proofs.YtehgfpfmpkmdmaaDoorW.PrintMore
open Go.Proofs.YtehgfpfmpkmdmaaDoor.Gf
theorem u8_nonneg {l : List Int} (h : ∀ x ∈ l, (Lit.int .u8 x).wf = true) : ∀ x ∈ l, 0 ≤ x := fun x hx => by
  have := h x hx
  simp [Lit.wf, IntKind.min, IntKind.max, IntKind.signed, IntKind.bits] at this
  omega
theorem kept_f (l : List Int) (h : l.length ≤ 200) : letterbagkit_KeptBytes.f l l = some true := by
  unfold letterbagkit_KeptBytes.f
  rw [if_pos ⟨rfl, by omega⟩]
theorem lent_f (l : List Int) (h : l.length ≤ 200) : letterbagkit_LentBytes.f l = some l := by
  unfold letterbagkit_LentBytes.f
  rw [if_pos (by omega)]
theorem over_f (l : List Int) (h : l.length ≤ 200) : letterbagkit_OverBytes.f l = some () := by
  unfold letterbagkit_OverBytes.f
  rw [if_pos (by omega)]
/-- The two lists' error. -/
def er1 (l : List Int) : Int := if 128 < l.length then 3 else if l.any badEl then 2 else 0
def er2 (l m : List Int) : Int := if 128 < l.length ∨ 128 < m.length then 3 else if l.any badEl then 2 else if m.any badEl then 2 else 0
theorem er1_f (l : List Int) : field_check.f [l] = some (er1 l) := err_one l
theorem er2_f (l m : List Int) : field_check.f [l, m] = some (er2 l m) := err_two l m
theorem rer1 (l : List Int) (hl : l.length ≤ 200) (k : Nat) (hk : 3000 ≤ k) : letterbagref18_Error.f k l [] = some (er1 l) := by
  rw [rErr l [] (by omega) (by simp) k hk, er1]
  simp
theorem rer2 (l m : List Int) (hl : l.length ≤ 200) (hm : m.length ≤ 200) (k : Nat) (hk : 3000 ≤ k) : letterbagref18_Error.f k l m = some (er2 l m) := rErr l m (by omega) (by omega) k hk
theorem er1_zero {l : List Int} (h : er1 l = 0) (h0 : ∀ x ∈ l, 0 ≤ x) : ∃ p : Poly, l = IL p ∧ p.length ≤ 128 := by
  unfold er1 at h
  by_cases h1 : 128 < l.length
  · rw [if_pos h1] at h
    exact absurd h (by decide)
  · rw [if_neg h1] at h
    cases hb : l.any badEl
    · obtain ⟨p, h2, h3⟩ := poly_of hb h0
      exact ⟨p, h2, by omega⟩
    · rw [hb] at h
      exact absurd h (by decide)
theorem er2_zero {l m : List Int} (h : er2 l m = 0) : er1 l = 0 ∧ er1 m = 0 := by
  unfold er2 at h
  unfold er1
  by_cases h1 : 128 < l.length ∨ 128 < m.length
  · rw [if_pos h1] at h
    exact absurd h (by decide)
  · rw [if_neg h1] at h
    have h2 : ¬ 128 < l.length := fun e => h1 (.inl e)
    have h3 : ¬ 128 < m.length := fun e => h1 (.inr e)
    rw [if_neg h2, if_neg h3]
    cases hb : l.any badEl <;> cases hc : m.any badEl <;> simp [hb, hc] at h ⊢
end Go.Proofs.YtehgfpfmpkmdmaaDoor.Print

namespace Go.Proofs.YtehgfpfmpkmdmaaDoor.Print
open Go.RowKit Go.Proofs.YtehgfpfmpkmdmaaDoorW.PrintWords Go.Proofs.YtehgfpfmpkmdmaaDoorW.PrintLast Go.Proofs.YtehgfpfmpkmdmaaDoorW.PrintMore
open Go.Proofs.YtehgfpfmpkmdmaaDoor.Gf
theorem ev_one (a x : F) : ev [a] x = a := by rw [ev, ev, mul_zero, add_zero]
theorem ev_two (a x : F) : ev [a, 1] x = a + x := by rw [ev, ev_one, mul_one]
theorem dg_two (a : F) : dg [a, 1] = 2 := dg_eq (n := 1) (fun i hi => cf_ge (by simp; omega)) (show (1 : F) ≠ 0 by decide)
/-- What stands when i points have been taken in. -/
structure Newton (X Y : Poly) (i : Nat) (out base : Poly) : Prop where
  lo : dg out ≤ i
  lb : dg base = i + 1
  tro : tr out = out
  trb : tr base = base
  val : ∀ j, j < i → ev out (cf X j) = cf Y j
  zero : ∀ j, j < i → ev base (cf X j) = 0
  unit : ∀ x, (∀ j, j < i → x ≠ cf X j) → ev base x ≠ 0
theorem Newton.start (X Y : Poly) : Newton X Y 0 [] [1] :=
  ⟨Nat.le_refl _, by decide, rfl, by decide, fun j h => by omega, fun j h => by omega, fun x _ => by rw [ev_one]; decide⟩
theorem Newton.step {X Y : Poly} {i : Nat} {out base : Poly} (h : Newton X Y i out base) (hx : ∀ j, j < i → cf X i ≠ cf X j) (c : F) (hc : c = (cf Y i + ev out (cf X i)) * Gf.inv (ev base (cf X i))) :
    Newton X Y (i + 1) (tr (addP out (tr (mulP base [c])))) (tr (mulP base [cf X i, 1])) := by
  have hu := h.unit _ hx
  have e1 : ∀ x, ev (tr (addP out (tr (mulP base [c])))) x = ev out x + ev base x * c := fun x => by
    rw [ev_eqv (tr_eqv _), ev_add, ev_eqv (tr_eqv _), ev_mul, ev_one]
  have e2 : ∀ x, ev (tr (mulP base [cf X i, 1])) x = ev base x * (cf X i + x) := fun x => by
    rw [ev_eqv (tr_eqv _), ev_mul, ev_two]
  refine ⟨?_, ?_, tr_tr _, tr_tr _, fun j hj => ?_, fun j hj => ?_, fun x hne => ?_⟩
  · rw [dg_tr]
    refine dg_add_le (Nat.le_trans h.lo (by omega)) ?_
    rw [dg_tr]
    refine dg_le (fun n hn => mul_above (m := i) (n := 0) (fun k hk => dg_ge (by have := h.lb; omega)) (fun k hk => cf_ge (by simp; omega)) (by omega))
  · rw [dg_tr, dg_mul (by have := h.lb; omega) (by rw [dg_two]; omega), h.lb, dg_two]
    omega
  · rw [e1]
    rcases Nat.lt_or_ge j i with hj' | hj'
    · rw [h.zero j hj', zero_mul, add_zero, h.val j hj']
    · obtain rfl : j = i := by omega
      rw [hc, mul_comm (cf Y j + _), ← mul_assoc, mul_inv hu, one_mul, add_comm (cf Y j), ← add_assoc, add_self, zero_add]
  · rw [e2]
    rcases Nat.lt_or_ge j i with hj' | hj'
    · rw [h.zero j hj', zero_mul]
    · obtain rfl : j = i := by omega
      rw [add_self, mul_zero]
  · rw [e2]
    intro hz
    rcases mul_eq_zero hz with hz | hz
    · exact h.unit x (fun j hj => hne j (by omega)) hz
    · exact hne i (by omega) (eq_of_add hz).symm
theorem through_l (X Y : Poly) (hn : X.length ≤ 128) (hxy : Y.length = X.length) : ∀ (e i K : Nat) (out base : Poly), i + e = X.length → (∀ j k, j < k → k < i → cf X j ≠ cf X k) → Newton X Y i out base → e < K →
    ((∀ j k, j < k → k < X.length → cf X j ≠ cf X k) ∧ ∃ g, field_Through.l0 K (IL X) (IL Y) (IL out) (IL base) (X.length : Int) (i : Int) = some (IL g, 0) ∧ tr g = g ∧ dg g ≤ X.length ∧ ∀ j, j < X.length → ev g (cf X j) = cf Y j) ∨
    ((∃ j k, j < k ∧ k < X.length ∧ cf X j = cf X k) ∧ field_Through.l0 K (IL X) (IL Y) (IL out) (IL base) (X.length : Int) (i : Int) = some ([], 2))
  | 0, i, K, out, base, he, hd, hN, hK => by
    obtain ⟨K, rfl⟩ : ∃ m, K = m + 1 := ⟨K - 1, by omega⟩
    obtain rfl : i = X.length := by omega
    exact .inl ⟨hd, out, by rw [field_Through.l0, if_neg (by omega)], hN.tro, hN.lo, hN.val⟩
  | e + 1, i, K, out, base, he, hd, hN, hK => by
    obtain ⟨K, rfl⟩ : ∃ m, K = m + 1 := ⟨K - 1, by omega⟩
    have lb := hN.lb
    have lo := hN.lo
    have llb := len_of_tr hN.trb
    have llo := len_of_tr hN.tro
    have hstart : field_Through.l0 (K + 1) (IL X) (IL Y) (IL out) (IL base) (X.length : Int) (i : Int) = if ofF (ev base (cf X i)) = 0 then some ([], 2) else field_Through.l0 K (IL X) (IL Y) (IL (tr (addP out (tr (mulP base [(cf Y i + ev out (cf X i)) * Gf.inv (ev base (cf X i))]))))) (IL (tr (mulP base [cf X i, 1]))) (X.length : Int) ((i + 1 : Nat) : Int) := by
      rw [field_Through.l0, if_pos (by omega), if_pos (by omega), if_pos (by rw [IL_len]; omega), rd_ILn, eval_f, Option.bind_some]
      by_cases h0 : ofF (ev base (cf X i)) = 0
      · rw [if_pos h0, if_pos h0]
      · rw [if_neg h0, if_neg h0, if_pos (by rw [IL_len]; omega), eval_f, Option.bind_some, inv_ofF (fun h => h0 (ofF_eq_zero.2 h)), Option.bind_some, rd_ILn, bx_ofF, mul_ofF, Option.bind_some]
        rw [show ([ofF ((cf Y i + ev out (cf X i)) * Gf.inv (ev base (cf X i)))] : List Int) = IL [(cf Y i + ev out (cf X i)) * Gf.inv (ev base (cf X i))] from rfl, product_f _ _ (by omega) (by simp), Option.bind_some, sum_f _ _ (by omega) (by
          have h1 := tr_len (mulP base [(cf Y i + ev out (cf X i)) * Gf.inv (ev base (cf X i))])
          have h2 : (tr (mulP base [(cf Y i + ev out (cf X i)) * Gf.inv (ev base (cf X i))])).length = dg (mulP base [(cf Y i + ev out (cf X i)) * Gf.inv (ev base (cf X i))]) := rfl
          have h3 := mul_dg_le base [(cf Y i + ev out (cf X i)) * Gf.inv (ev base (cf X i))]
          simp only [List.length_singleton] at h3
          omega), Option.bind_some, show ([ofF (cf X i), 1] : List Int) = IL [cf X i, 1] from rfl, product_f _ _ (by omega) (by simp), Option.bind_some, w64 (by omega) (by omega)]
        rfl
    by_cases hx : ∀ j, j < i → cf X i ≠ cf X j
    · have hu : ¬ ofF (ev base (cf X i)) = 0 := fun h => hN.unit _ hx (ofF_eq_zero.1 h)
      rw [hstart, if_neg hu]
      exact through_l X Y hn hxy e (i + 1) K _ _ (by omega) (fun j k hj hk => by
        rcases Nat.lt_or_ge k i with h | h
        · exact hd j k hj h
        · obtain rfl : k = i := by omega
          exact (hx j hj).symm) (hN.step hx _ rfl) (by omega)
    · obtain ⟨j, hj, hji⟩ : ∃ j, j < i ∧ cf X i = cf X j := by
        refine Classical.byContradiction fun hc => hx fun j hj he => hc ⟨j, hj, he⟩
      refine .inr ⟨⟨j, i, hj, by omega, hji.symm⟩, ?_⟩
      rw [hstart, if_pos]
      rw [hji, hN.zero j hj]
      rfl
theorem Through_f (X Y : Poly) (hn : X.length ≤ 128) (hxy : Y.length = X.length) (k : Nat) (hk : 1000 ≤ k) :
    ((∀ j k, j < k → k < X.length → cf X j ≠ cf X k) ∧ ∃ g, field_Through.f k (IL X) (IL Y) = some (IL g, 0) ∧ tr g = g ∧ dg g ≤ X.length ∧ ∀ j, j < X.length → ev g (cf X j) = cf Y j) ∨
    ((∃ j k, j < k ∧ k < X.length ∧ cf X j = cf X k) ∧ field_Through.f k (IL X) (IL Y) = some ([], 2)) := by
  unfold field_Through.f
  rw [check_two X Y hn (by omega), Option.bind_some, if_pos rfl, IL_len, IL_len, if_pos (by omega)]
  exact through_l X Y hn hxy X.length 0 k [] [1] (by omega) (fun j k _ h => by omega) (Newton.start X Y) (by omega)
end Go.Proofs.YtehgfpfmpkmdmaaDoor.Print
