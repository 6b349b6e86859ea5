/- The contract of sequence.wrong: the index of the first stop that is not valid, or whose ID an earlier one has; -1 if there is none. By hand, in the printed contracts' form. -/
import Derived.Test.YtbhcchcjmgfpiaaGa
import Derived.Maps.OwnSet
import Derived.Maps.AppendAt
namespace Go.Proofs.Ytbhcchcjmgfpiaa.Print
open Go.RowKit Go.Proofs.YtbhcchcjmgfpiaaW.PrintWords Go.Proofs.YtbhcchcjmgfpiaaW.PrintLast Go.Proofs.YtbhcchcjmgfpiaaW.PrintMore
open Go.Maps (Keyed int_keyed keyOf_int_mk)

def badStop (x : S27) : Bool := decide (x.f0 < 1) || decide (x.f0 > 999999) || decide (x.f1 < 1) || decide (x.f1 > 10000)
/-- The first place from k on that is not valid or repeats one of pre; -1 if there is none. -/
def wrongFrom : List Int → Nat → List S27 → Int
  | _, _, [] => -1
  | pre, k, x :: xs => if pre.contains x.f0 || badStop x then (k : Int) else wrongFrom (pre ++ [x.f0]) (k + 1) xs
def wfI (n : Int) : Bool := (Lit.int .i64 n).wf
def sequence_wrong.f (l0 : List S27) : Option Int := if l0.all (fun x => wfI x.f0) then some (wrongFrom [] 0 l0) else none
theorem wrongFrom_drop (l : List S27) (pre : List Int) (k : Nat) (h : k < l.length) :
    wrongFrom pre k (l.drop k) = if pre.contains (rd_T27 l k).f0 || badStop (rd_T27 l k) then (k : Int) else wrongFrom (pre ++ [(rd_T27 l k).f0]) (k + 1) (l.drop (k + 1)) := by
  rw [List.drop_eq_getElem_cons h, wrongFrom]
  simp [rd_T27, List.getD_eq_getElem?_getD, List.getElem?_eq_getElem h]

theorem law3 : Keyed Try.prog 3 := int_keyed Try.underlying3
theorem zero3 (w : World) : (zeroValue 3).run Try.prog w = .ok (.int .i64 0) w := by kernel_rfl
/-- A ghost: the map's keys are the numbers of pre. -/
def KeysAre (D : DataW Unit) (pre : List Int) : Prop := ∀ a, Maps.has D (.int .i64 a) = pre.contains a
theorem keysAre_nil : KeysAre (.map []) [] := fun _ => rfl
theorem keysAre_snoc {D : DataW Unit} {pre : List Int} (hD : Maps.IsMap D) (h : KeysAre D pre) (a : Int) (d : DataW Unit) : KeysAre (D.put (.int .i64 a) d) (pre ++ [a]) := by
  intro b
  by_cases e : b = a
  · subst e
    rw [Maps.has_put_same hD (by simp [WideAt.IsKeyLit])]
    simp
  · rw [Maps.has_put_other (by simpa using e), h b]
    simp [e]
theorem bad_not {x : S27} (h : badStop x = false) : 1 ≤ x.f0 ∧ x.f0 ≤ 999999 ∧ 1 ≤ x.f1 ∧ x.f1 ≤ 10000 := by
  simp [badStop] at h
  omega

set_option maxHeartbeats 2000000 in
set_option maxRecDepth 100000 in
theorem sequence_wrong.calls (A0 : Option Addr) (c0 : Nat) (l0 : List S27) (r : Int) (w : World) (hr0 : Kd.C k27 w A0 l0.length l0) (_hc0 : l0.length ≤ c0) (h : sequence_wrong.f l0 = some r) :
    Calls Try.prog 37 #[.slice A0 l0.length c0] w fun e w' => e = .returned (.int .i64 r) ∧ Below w.heap.size w w' := by
  have hmax : l0.length ≤ 9223372036854775807 := hr0.2.1
  have HR := Aside0.mk hr0
  clear hr0 _hc0
  unfold sequence_wrong.f at h
  by_cases hall : l0.all (fun x => wfI x.f0) = true
  · rw [if_pos hall] at h
    injection h with h
    have H := Aside0.mk h
    have HALL := Aside0.mk hall
    clear h hall
    have hu27 := Try.underlying27
    have hmm := @run_makeMap Try.prog
    go_enter Try.func37, Try.ntmps37
    go_wp2
    go_loopw [11] (fun i wr => ∃ (k : Nat) (pre : List Int) (D : DataW Unit), k ≤ l0.length ∧ i = .int .i64 k ∧ Aside0 (wr.ownsMap Try.prog 3 (plainElem Try.prog 3) w.heap.size k D) ∧ Aside0 (KeysAre D pre) ∧ Aside0 (wrongFrom [] 0 l0 = wrongFrom pre k (l0.drop k)) ∧ Aside0 (Below w.heap.size w wr))
      (fun i _ => l0.length - (intOf i).toNat)
    case atStart => exact ⟨0, [], _, Nat.zero_le _, rfl, ⟨World.ownsMap_made _ _ _ _⟩, ⟨keysAre_nil⟩, ⟨rfl⟩, ⟨(Below.refl _ _).alloc (Nat.le_refl _) _⟩⟩
    case round =>
      obtain ⟨k, pre, D, hk, rfl, HO, HK, HW, HB⟩ := hrel
      by_cases hlt : k < l0.length
      · obtain ⟨ad, rfl, hx0, hx1⟩ := at_T27 (Kd.C_below HR.out HB.out) (k : Int) (by omega) (by omega)
        obtain ⟨x, hx⟩ : ∃ x, x = rd_T27 l0 k := ⟨_, rfl⟩
        rw [← hx] at hx0 hx1
        simp only [Int.toNat_natCast] at hx0 hx1
        have hwf : (Lit.int .i64 x.f0).wf = true := by
          have := List.all_eq_true.1 HALL.out (l0[k]) (List.getElem_mem hlt)
          rw [hx]
          simpa [rd_T27, List.getD_eq_getElem?_getD, List.getElem?_eq_getElem hlt, wfI] using this
        have HD := Aside0.mk (HW.out.trans (wrongFrom_drop l0 pre k hlt))
        rw [← hx] at HD
        have hkey := Aside0.mk (keyOf_int_mk Try.underlying3 hwf)
        have HX := Aside0.mk hx
        clear hx hwf HW
        have hb0 := World.block_lt_of_cell? _ _ hx0
        cases hc : pre.contains x.f0
        · cases hbad : badStop x
          · -- a stop that is valid and new: on with it
            have hv := bad_not hbad
            have HV := Aside0.mk hbad
            have HC := Aside0.mk hc
            clear hbad hc
            go_wp2_with (first
              | (at_lookup; refine wpList_lookup_own_ok_int _ rfl _ _ 88 rfl 3 3 .i64 law3 Try.underlying88 Try.underlying3 (zero3 _) w.heap.size k _ rfl (HO.out.alloc _) _ _ rfl hkey.out ?_; intro c hat hwc; rw [show Maps.has D (Lit.int .i64 x.f0) = false from (HK.out x.f0).trans HC.out])
              | (at_mapUpdate; refine wpList_mapUpdate_own _ rfl _ _ _ 88 rfl 3 3 law3 Try.underlying88 _ w.heap.size k _ rfl (HO.out.alloc _) (by unfold maxLen; omega) _ _ _ rfl rfl hkey.out _ [] (plainElem_int Try.underlying3 (WalkArith.wf_i64 (by omega))) ?_; intro w1 hown1 hgrow1)
              | go_in)
            go_roundw
            case rel => exact ⟨k + 1, _, _, by omega, by go_num, ⟨hown1⟩, ⟨keysAre_snoc (by obtain ⟨es, he, _⟩ := HO.out.tidy law3; exact ⟨es, he⟩) HK.out x.f0 _⟩, ⟨by rw [HD.out, HC.out, HV.out]; rfl⟩, ⟨(HB.out.alloc HB.out.size _).grown hgrow1 (by have := HB.out.size; simp; omega) (fun j hj => by cases hj; exact Nat.le_refl _)⟩⟩
            case measure => simp [intOf]; omega
          · -- one that is not valid
            have HV := Aside0.mk hbad
            have HC := Aside0.mk hc
            have HE := Aside0.mk (show r = (k : Int) by rw [← H.out, HD.out, HC.out, HV.out]; rfl)
            have hb : x.f0 < 1 ∨ ¬ x.f0 < 1 ∧ (x.f0 > 999999 ∨ ¬ x.f0 > 999999 ∧ (x.f1 < 1 ∨ ¬ x.f1 < 1 ∧ x.f1 > 10000)) := by
              simp [badStop] at hbad
              omega
            clear hbad hc
            rcases hb with h1 | ⟨h1, h2 | ⟨h2, h3 | ⟨h3, h4⟩⟩⟩
            all_goals
              go_wp2_with (first
                | (at_lookup; refine wpList_lookup_own_ok_int _ rfl _ _ 88 rfl 3 3 .i64 law3 Try.underlying88 Try.underlying3 (zero3 _) w.heap.size k _ rfl (HO.out.alloc _) _ _ rfl hkey.out ?_; intro c hat hwc; rw [show Maps.has D (Lit.int .i64 x.f0) = false from (HK.out x.f0).trans HC.out])
                | go_in)
              go_ret
              exact ⟨ret_int HE.out.symm, by have := HB.out; exact this.alloc this.size _⟩
        · -- one that repeats
          have HC := Aside0.mk hc
          have HE := Aside0.mk (show r = (k : Int) by rw [← H.out, HD.out, HC.out]; rfl)
          clear hc
          go_wp2_with (first
            | (at_lookup; refine wpList_lookup_own_ok_int _ rfl _ _ 88 rfl 3 3 .i64 law3 Try.underlying88 Try.underlying3 (zero3 _) w.heap.size k _ rfl (HO.out.alloc _) _ _ rfl hkey.out ?_; intro c hat hwc; rw [show Maps.has D (Lit.int .i64 x.f0) = true from (HK.out x.f0).trans HC.out])
            | go_in)
          go_ret
          exact ⟨ret_int HE.out.symm, by have := HB.out; exact this.alloc this.size _⟩
      · have HE := Aside0.mk (show r = -1 by rw [← H.out, HW.out, show k = l0.length by omega, List.drop_length]; rfl)
        clear HW
        go_wp2
        go_ret
        exact ⟨ret_int HE.out.symm, HB.out⟩
  · rw [if_neg hall] at h
    cases h
end Go.Proofs.Ytbhcchcjmgfpiaa.Print
