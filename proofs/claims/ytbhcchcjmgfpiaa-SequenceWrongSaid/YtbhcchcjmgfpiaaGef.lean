/- The law's feed, as a function: each number picks a stop, if that has still an item left. -/
import Derived.Test.YtbhcchcjmgfpiaaPrint0
namespace Go.Proofs.Ytbhcchcjmgfpiaa.Print
open Go.RowKit Go.Proofs.YtbhcchcjmgfpiaaW.PrintWords Go.Proofs.YtbhcchcjmgfpiaaW.PrintLast Go.Proofs.YtbhcchcjmgfpiaaW.PrintMore
def feedStep (l : List S27) (s : List Int × List Int) (p : Int) : List Int × List Int :=
  let k : Int := p % (l.length : Int)
  if rd s.1 k < (rd_T27 l k).f1 then (s.1.set k.toNat (rd s.1 k + 1), s.2 ++ [(rd_T27 l k).f0]) else s
def feedAll (l : List S27) (picks : List Int) : List Int × List Int := picks.foldl (feedStep l) (List.replicate l.length 0, [])
def feedL (l : List S27) (picks : List Int) : List Int := if l.length = 0 then [] else (feedAll l (picks.take 2000)).2
def isU8 (p : Int) : Bool := decide (0 ≤ p) && decide (p ≤ 255)
def letterbaglaw28_feed.f (l0 : List S27) (l1 : List Int) : Option (List Int) := if l0.length ≤ 100000 ∧ l1.all isU8 = true then some (feedL l0 l1) else none
theorem feedStep_len (l : List S27) (s : List Int × List Int) (p : Int) : (feedStep l s p).1.length = s.1.length ∧ (feedStep l s p).2.length ≤ s.2.length + 1 := by
  unfold feedStep
  simp only
  split <;> simp
theorem feedAll_len (l : List S27) (picks : List Int) : (feedAll l picks).1.length = l.length ∧ (feedAll l picks).2.length ≤ picks.length := by
  have h : ∀ (ps : List Int) (s : List Int × List Int), (ps.foldl (feedStep l) s).1.length = s.1.length ∧ (ps.foldl (feedStep l) s).2.length ≤ s.2.length + ps.length := by
    intro ps
    induction ps with
    | nil => intro s; exact ⟨rfl, Nat.le_refl _⟩
    | cons p ps ih =>
      intro s
      have h1 := ih (feedStep l s p)
      have h2 := feedStep_len l s p
      rw [List.foldl_cons, List.length_cons]
      exact ⟨h1.1.trans h2.1, by omega⟩
  have := h picks (List.replicate l.length 0, [])
  unfold feedAll
  simpa using this
theorem feedAll_snoc (l : List S27) (picks : List Int) (k : Nat) (hk : k < picks.length) : feedAll l (picks.take (k + 1)) = feedStep l (feedAll l (picks.take k)) (rd picks (k : Int)) := by
  rw [List.take_add_one, List.getElem?_eq_getElem hk]
  unfold feedAll
  rw [List.foldl_append]
  simp [rd, List.getD_eq_getElem?_getD, List.getElem?_eq_getElem hk]
/-- What is left never goes beyond the picks. -/
theorem feed_rd_le (l : List S27) : ∀ (picks : List Int) (j : Int), 0 ≤ rd (feedAll l picks).1 j ∧ rd (feedAll l picks).1 j ≤ picks.length := by
  have h : ∀ (ps : List Int) (s : List Int × List Int) (b : Int), (∀ j, 0 ≤ rd s.1 j ∧ rd s.1 j ≤ b) → ∀ j, 0 ≤ rd (ps.foldl (feedStep l) s).1 j ∧ rd (ps.foldl (feedStep l) s).1 j ≤ b + ps.length := by
    intro ps
    induction ps with
    | nil => intro s b hb j; simpa using hb j
    | cons p ps ih =>
      intro s b hb j
      rw [List.foldl_cons, List.length_cons]
      have := ih (feedStep l s p) (b + 1) (fun i => by
        unfold feedStep
        simp only
        split
        · have h0 := hb i
          have h1 := hb (p % (l.length : Int))
          simp only [rd, List.getD_eq_getElem?_getD, List.getElem?_set] at *
          split
          · split
            · simp only [Option.getD_some]; omega
            · simp only [Option.getD_none]; omega
          · omega
        · have h0 := hb i
          omega) j
      push_cast
      omega
  intro picks j
  have := h picks (List.replicate l.length 0, []) 0 (fun i => by
    simp only [rd, List.getD_eq_getElem?_getD, List.getElem?_replicate]
    split <;> simp) j
  unfold feedAll
  simpa using this
end Go.Proofs.Ytbhcchcjmgfpiaa.Print
