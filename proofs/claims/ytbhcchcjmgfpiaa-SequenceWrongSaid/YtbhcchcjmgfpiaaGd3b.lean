/- Parts of the contract of sequence.Make: the rule in plain words, its call of the iterator, the deferred calls' marks. -/
import Derived.Test.YtbhcchcjmgfpiaaGa
import Derived.Test.YtbhcchcjmgfpiaaGb
import Derived.Test.YtbhcchcjmgfpiaaGd2
import Derived.Test.YtbhcchcjmgfpiaaPrint11
import Derived.RangeFuncLeaves
namespace Go.Proofs.Ytbhcchcjmgfpiaa.Print
open Go.RowKit Go.Shelf Go.Proofs.YtbhcchcjmgfpiaaW.PrintWords Go.Proofs.YtbhcchcjmgfpiaaW.PrintLast Go.Proofs.YtbhcchcjmgfpiaaW.PrintMore

def withinL (loads caps : List Int) : Bool := (loads.zip caps).all fun p => decide (p.1 ≤ p.2)
theorem within_l0 (x1 x7 : List Int) (hl : x7.length = x1.length) (hb : x7.length ≤ 1000000) : ∀ (d i : Nat), i + d = x7.length →
    sequence_within.l0 (d + 1) x1 x7 (x7.length : Int) (i : Int) = some (withinL (x7.drop i) (x1.drop i))
  | 0, i, h => by
    rw [sequence_within.l0, if_neg (by omega), List.drop_of_length_le (by omega)]
    rfl
  | d + 1, i, h => by
    have ih := within_l0 x1 x7 hl hb d (i + 1) (by omega)
    have h7 : i < x7.length := by omega
    have h1 : i < x1.length := by omega
    have e7 : rd x7 (i : Int) = x7[i] := by simp [rd, List.getD_eq_getElem?_getD, List.getElem?_eq_getElem h7]
    have e1 : rd x1 (i : Int) = x1[i] := by simp [rd, List.getD_eq_getElem?_getD, List.getElem?_eq_getElem h1]
    have ew : wrap64 ((i : Int) + 1) = ((i + 1 : Nat) : Int) := by unfold wrap64; omega
    rw [sequence_within.l0, if_pos (by omega), if_pos (by omega), if_pos (by omega), if_pos (by omega), e7, e1, ew, ih, List.drop_eq_getElem_cons h7, List.drop_eq_getElem_cons h1]
    by_cases hc : x7[i] > x1[i]
    · rw [if_pos hc]
      unfold withinL
      rw [List.zip_cons_cons, List.all_cons, decide_eq_false (show ¬ (x7[i], x1[i]).1 ≤ (x7[i], x1[i]).2 by simp only; omega)]
      rfl
    · rw [if_neg hc]
      unfold withinL
      rw [List.zip_cons_cons, List.all_cons, decide_eq_true (show (x7[i], x1[i]).1 ≤ (x7[i], x1[i]).2 by simp only; omega)]
      rfl
theorem within_f (x7 x1 : List Int) (hl : x7.length = x1.length) (hb : x7.length ≤ 1000000) : sequence_within.f (x7.length + 1) x7 x1 = some (withinL x7 x1) := by
  have := within_l0 x1 x7 hl hb x7.length 0 (by omega)
  simpa [sequence_within.f] using this

/-- Do the stackers suffice, with at most so many stops on one? -/
def planOk (stops : List S27) (caps : List Int) (most : Int) : Bool :=
  decide ((seatL caps most 0 0 0 stops).length = stops.length) && withinL (loadsF caps.length (seatL caps most 0 0 0 stops)) caps
/-- The rule's search from a limit down. -/
def makeFrom (stops : List S27) (caps : List Int) : Nat → Option (List S60)
  | 0 => if stops.length = 0 then some [] else none
  | k + 1 => if planOk stops caps ((k + 1 : Nat) : Int) then some (seatL caps ((k + 1 : Nat) : Int) 0 0 0 stops) else makeFrom stops caps k
abbrev MakeR := List Int × List S60 × List Int × List Int × Int
def makeG (stops : List S27) (caps : List Int) : Nat → MakeR := fun k => match makeFrom stops caps k with
  | some s => (caps, s, loadsF caps.length s, loadsS caps.length s, 0)
  | none => ([], [], [], [], 4)
def sequence_Make.f (l0 : List S27) (l1 : List Int) : Option MakeR := (sequence_machine.f l1).bind fun t154 => (if t154 = true then (if (l0.length : Int) > 1000 then (some (([] : List Int), ([] : List (S60)), ([] : List Int), ([] : List Int), 5)) else ((sequence_wrong.f l0).bind fun t155 => (if t155 ≥ 0 then (some (([] : List Int), ([] : List (S60)), ([] : List Int), ([] : List Int), 281)) else (some (makeG l0 l1 (min l0.length l1.length)))))) else (some (([] : List Int), ([] : List (S60)), ([] : List Int), ([] : List Int), 280)))

theorem machine_true {l : List Int} (h : sequence_machine.f l = some true) : 0 < l.length ∧ l.length ≤ 64 ∧ ∀ c ∈ l, 1 ≤ c ∧ c ≤ 100000 := by
  simp only [sequence_machine.f, Option.some.injEq, Bool.and_eq_true, decide_eq_true_eq, Bool.not_eq_true'] at h
  obtain ⟨⟨h1, h2⟩, h3⟩ := h
  refine ⟨h1, h2, fun c hc => ?_⟩
  rw [List.any_eq_false] at h3
  have := h3 c hc
  simp [badCap] at this
  exact this
theorem wrongFrom_neg : ∀ (l : List S27) (pre : List Int) (k : Nat), wrongFrom pre k l < 0 → ∀ x ∈ l, badStop x = false
  | [], _, _, _, _, hx => by cases hx
  | y :: ys, pre, k, h, x, hx => by
    rw [wrongFrom] at h
    split at h
    · omega
    · rename_i hn
      simp only [Bool.or_eq_true, not_or, Bool.not_eq_true] at hn
      rcases List.mem_cons.1 hx with rfl | hx
      · exact hn.2
      · exact wrongFrom_neg ys _ _ h x hx
theorem withinL_zeros : ∀ (caps : List Int), (∀ c ∈ caps, 1 ≤ c) → withinL (List.replicate caps.length 0) caps = true
  | [], _ => rfl
  | c :: cs, h => by
    have h1 := h c (by simp)
    have h2 := withinL_zeros cs (fun x hx => h x (by simp [hx]))
    simp only [withinL, List.length_cons, List.replicate_succ, List.zip_cons_cons, List.all_cons, Bool.and_eq_true, decide_eq_true_eq] at h2 ⊢
    exact ⟨by omega, h2⟩

theorem reps60 (R : S60 → List Value → Prop) (hR : ∀ x : S60, R x [.int .i64 x.f0, .int .i64 x.f1, .int .i64 x.f2, .int .i64 x.f3]) : ∀ (l : List S60), Reps R 4 l (cells60 l) := by
  intro l
  have key : ∀ (b a : List S60), Reps R 4 a (cells60 a) → Reps R 4 (a ++ b) (cells60 (a ++ b)) := by
    intro b
    induction b with
    | nil => intro a h; simpa using h
    | cons x xs ih =>
      intro a h
      have := ih (a ++ [x]) (by rw [cells60_snoc]; exact h.snoc (hR x) rfl)
      simpa using this
  exact key l [] (Reps.none _ _)
theorem R60_of_own {W : World} {base : Nat} {v : Value} {l : List S60} (h : W.ownsRow base 60 4 v l.length (cells60 l)) : Kd.R k60 60 W base (fun _ => True) v l :=
  ⟨fun _ _ => trivial, cells60 l, h, reps60 _ (fun x => k60_mkM W base _ x) l⟩

/-- The marks of rounds in which nothing was deferred. -/
def mark (D : Nat) : Deferred := { target := .collected D, args := #[] }
theorem leaves_marks {F : Fence} {n : Nat} {P : Program} {fn : Func} {tmps : Array Value} {R : Ending → World → Prop} (B : Nat) (Good : World → Prop)
    (hG : ∀ (W : World) (D : Nat), B ≤ D → W.heap[D]? = some (.deferred (some [])) → Good W → Good (W.putObj D (.deferred none)))
    (hend : ∀ W, Good W → LeavesIn F n P fn tmps R [] .returning W) :
    ∀ (Ds : List Nat) (W : World), Ds.Nodup → (∀ D ∈ Ds, B ≤ D ∧ W.heap[D]? = some (.deferred (some []))) → Good W → LeavesInM F n P fn tmps R (Ds.map mark) .returning W
  | [], W, _, _, hg => hend W hg
  | D :: Ds, W, hn, hD, hg => by
    obtain ⟨hb, hd⟩ := hD D (by simp)
    refine ⟨by simp, .inl ⟨D, _, rfl, run_takeDeferred hd, ?_⟩⟩
    have hnn := List.nodup_cons.1 hn
    refine leaves_marks B Good hG hend Ds _ hnn.2 (fun D' hD' => ⟨(hD D' (by simp [hD'])).1, ?_⟩) (hG W D hb hd hg)
    have h2 := (hD D' (by simp [hD'])).2
    refine ((grownBy_putObj' W D (.deferred none)).block D' (blk_lt h2) (fun e => ?_)).trans h2
    obtain rfl : D' = D := by simpa using e
    exact hnn.1 hD'

set_option maxHeartbeats 1000000 in
/-- The call of the iterator: three boxes, in the order of the captured variables. -/
theorem seats39 (w : World) (A0 : Option Addr) (n0 c0 : Nat) (A1 : Option Addr) (n1 c1 : Nat) (most : Int) :
    Calls Try.prog 39 #[.slice A0 n0 c0, .slice A1 n1 c1, .int .i64 most] w fun e W =>
      e = .returned (.func (.func 51) #[] #[.pointer (some ⟨w.heap.size, 0, none⟩), .pointer (some ⟨w.heap.size + 1, 0, none⟩), .pointer (some ⟨w.heap.size + 2, 0, none⟩)]) ∧ Below w.heap.size w W ∧ W.heap.size = w.heap.size + 3 ∧
        W.heap[w.heap.size]? = some (.cells #[.slice A0 n0 c0] 28 (0, 0)) ∧ W.heap[w.heap.size + 1]? = some (.cells #[.slice A1 n1 c1] 24 (0, 0)) ∧ W.heap[w.heap.size + 2]? = some (.cells #[.int .i64 most] 3 (0, 0)) := by
  go_enter Try.func39, Try.ntmps39
  go_wp2
  go_ret
  have s0 : (w.alloc (.cells #[.slice A0 n0 c0] 28)).heap.size = w.heap.size + 1 := by simp
  have s1 : ((w.alloc (.cells #[.slice A0 n0 c0] 28)).alloc (.cells #[.slice A1 n1 c1] 24)).heap.size = w.heap.size + 2 := by simp
  refine ⟨rfl, below_alloc (below_alloc (below_alloc (Below.refl _ _) _) _) _, by simp, blk_alloc (blk_alloc (blk_new w _) _) _, ?_, ?_⟩
  · have := blk_alloc (blk_new (w.alloc (.cells #[.slice A0 n0 c0] 28)) (.cells #[.slice A1 n1 c1] 24)) (.cells #[.int .i64 most] 3)
    rwa [s0] at this
  · have := blk_new ((w.alloc (.cells #[.slice A0 n0 c0] 28)).alloc (.cells #[.slice A1 n1 c1] 24)) (.cells #[.int .i64 most] 3)
    rwa [s1] at this
end Go.Proofs.Ytbhcchcjmgfpiaa.Print
