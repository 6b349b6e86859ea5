/- Plain laws of plans: what Make finds, what Check says of it. -/
import Derived.Test.YtbhcchcjmgfpiaaGcd
import Derived.Test.YtbhcchcjmgfpiaaGd3b
/- What sequence.Check says of a plan that keeps the rules: it accepts it. Plain Lean over the printed text of Check. -/
namespace Go.Proofs.Ytbhcchcjmgfpiaa.Print
open Go.RowKit Go.Proofs.YtbhcchcjmgfpiaaW.PrintWords Go.Proofs.YtbhcchcjmgfpiaaW.PrintLast Go.Proofs.YtbhcchcjmgfpiaaW.PrintMore

def stopsOf (s : List S60) : List S27 := s.map fun x => ⟨x.f0, x.f1⟩
/-- The seats' order: by the second stacker, then by the first. -/
def seatLt (x y : S60) : Prop := x.f3 < y.f3 ∨ (x.f3 = y.f3 ∧ x.f2 < y.f2)
theorem rd60 (s : List S60) (i : Nat) (h : i < s.length) : rd_T60 s (i : Int) = s[i] := by simp [rd_T60, List.getD_eq_getElem?_getD, List.getElem?_eq_getElem h]
theorem wrap_nat (i : Nat) (h : i < 1000000) : wrap64 ((i : Int) + 1) = ((i + 1 : Nat) : Int) := by unfold wrap64; omega
theorem take_snoc {α : Type} (s : List α) (i : Nat) (h : i < s.length) : s.take (i + 1) = s.take i ++ [s[i]] := by
  rw [List.take_add_one, List.getElem?_eq_getElem h]
  rfl

theorem stopsOf_snoc (l : List S60) (x : S60) : stopsOf (l ++ [x]) = stopsOf l ++ [⟨x.f0, x.f1⟩] := by
  rw [stopsOf, List.map_append]
  rfl
theorem check_l0 (c f g : List Int) (s : List S60) (hs : s.length ≤ 1000) : ∀ (d i k : Nat), i + d = s.length →
    sequence_CheckK.l0 (k + d) (stopsOf (s.take i)) s (s.length : Int) (i : Int) c s f g = sequence_CheckK.l0 k (stopsOf s) s (s.length : Int) (s.length : Int) c s f g
  | 0, i, k, h => by
    obtain rfl : i = s.length := by omega
    rw [List.take_length]
    rfl
  | d + 1, i, k, h => by
    have hi : i < s.length := by omega
    have ih := check_l0 c f g s hs d (i + 1) k (by omega)
    rw [← ih, show k + (d + 1) = (k + d) + 1 by omega, sequence_CheckK.l0, if_pos (by omega), if_pos (by omega), if_pos (by omega), if_pos (by simp [stopsOf]; omega), rd60 s i hi, wrap_nat i (by omega), take_snoc s i hi, stopsOf_snoc]

theorem check_l3 (c F G : List Int) (hF : F.length = c.length) (hG : G.length = c.length) (hn : c.length ≤ 64) (hok : ∀ i : Nat, i < c.length → rd F i ≤ rd c i ∧ rd G i ≤ rd c i) : ∀ (d i k : Nat), i + d = c.length →
    sequence_CheckK.l3 (k + d + 1) F G c (c.length : Int) (i : Int) = some (0, 0)
  | 0, i, k, h => by
    rw [sequence_CheckK.l3, if_neg (by omega)]
  | d + 1, i, k, h => by
    have ih := check_l3 c F G hF hG hn hok d (i + 1) k (by omega)
    have ho := hok i (by omega)
    rw [show k + (d + 1) + 1 = (k + d + 1) + 1 by omega, sequence_CheckK.l3, if_pos (by omega), if_pos (by omega), if_pos (by omega), if_pos (by omega), if_pos (by omega), if_neg (by unfold mx; split <;> omega), wrap_nat i (by omega), ih]

theorem check_l2 (c F G : List Int) (s : List S60) (hF : F.length = c.length) (hG : G.length = c.length) (hn : c.length ≤ 64) : ∀ (d i k : Nat), i + d = c.length →
    sequence_CheckK.l2 (k + d + 1) F G (c.length : Int) (i : Int) c s F G = sequence_CheckK.l3 k F G c (c.length : Int) 0
  | 0, i, k, h => by
    rw [sequence_CheckK.l2, if_neg (by omega)]
  | d + 1, i, k, h => by
    have ih := check_l2 c F G s hF hG hn d (i + 1) k (by omega)
    rw [show k + (d + 1) + 1 = (k + d + 1) + 1 by omega, sequence_CheckK.l2, if_pos (by omega), if_pos (by omega), if_pos (by omega), if_pos (by omega), if_pos rfl, if_pos (by omega), if_pos (by omega), if_pos rfl, wrap_nat i (by omega), ih]

theorem check_l1 (c f g : List Int) (s : List S60) (hs : s.length ≤ 1000) (hn : c.length ≤ 64) (hok : ∀ x ∈ s, GoodSeat c.length x)
    (hlt : ∀ (i : Nat) (h : i + 1 < s.length), seatLt s[i] s[i + 1]) : ∀ (d i k : Nat), i + d = s.length →
    sequence_CheckK.l1 (k + 2 * d) (loadsF c.length (s.take i)) (loadsS c.length (s.take i)) s (s.length : Int) (i : Int) c s f g = sequence_CheckK.l1 k (loadsF c.length s) (loadsS c.length s) s (s.length : Int) (s.length : Int) c s f g
  | 0, i, k, h => by
    obtain rfl : i = s.length := by omega
    rw [List.take_length]
    rfl
  | d + 1, i, k, h => by
    have hi : i < s.length := by omega
    have ih := check_l1 c f g s hs hn hok hlt d (i + 1) k (by omega)
    obtain ⟨h1, h2, h3, h4, h5, h6⟩ := hok s[i] (List.getElem_mem hi)
    obtain ⟨bl, bb⟩ := loads_bound (·.f2) c.length (s.take i) (fun y hy => by obtain ⟨z1, z2, z3, z4, z5, z6⟩ := hok y (List.mem_of_mem_take hy); exact ⟨z3, z4, z1, z2⟩)
    obtain ⟨bl', bb'⟩ := loads_bound (·.f3) c.length (s.take i) (fun y hy => by obtain ⟨z1, z2, z3, z4, z5, z6⟩ := hok y (List.mem_of_mem_take hy); exact ⟨z5, z6, z1, z2⟩)
    have b3 := bb s[i].f2 h3
    have b4 := bb' s[i].f3 h5
    have ht : (s.take i).length ≤ 1000 := by simp; omega
    change (loadsF c.length (s.take i)).length = c.length at bl
    change (loadsS c.length (s.take i)).length = c.length at bl'
    change 0 ≤ rd (loadsF c.length (s.take i)) s[i].f2 ∧ rd (loadsF c.length (s.take i)) s[i].f2 ≤ _ at b3
    change 0 ≤ rd (loadsS c.length (s.take i)) s[i].f3 ∧ rd (loadsS c.length (s.take i)) s[i].f3 ≤ _ at b4
    have e1 : (loadsF c.length (s.take i)).set s[i].f2.toNat (wrap64 (rd (loadsF c.length (s.take i)) s[i].f2 + s[i].f1)) = loadsF c.length (s.take (i + 1)) := by
      rw [take_snoc s i hi, loadsF_snoc, putI, show wrap64 (rd (loadsF c.length (s.take i)) s[i].f2 + s[i].f1) = rd (loadsF c.length (s.take i)) s[i].f2 + s[i].f1 by unfold wrap64; omega]
    have e2 : (loadsS c.length (s.take i)).set s[i].f3.toNat (wrap64 (rd (loadsS c.length (s.take i)) s[i].f3 + s[i].f1)) = loadsS c.length (s.take (i + 1)) := by
      rw [take_snoc s i hi, loadsS_snoc, putI, show wrap64 (rd (loadsS c.length (s.take i)) s[i].f3 + s[i].f1) = rd (loadsS c.length (s.take i)) s[i].f3 + s[i].f1 by unfold wrap64; omega]
    rw [show k + 2 * (d + 1) = (k + 2 * d) + 1 + 1 by omega, sequence_CheckK.l1, if_pos (by omega), if_pos (by omega), if_pos (by omega), rd60 s i hi, if_neg (by unfold mn; split <;> omega),
      show decide ((mx s[i].f2 s[i].f3) ≥ (c.length : Int)) = false from decide_eq_false (by unfold mx; split <;> omega), sequence_CheckK.j2, if_neg (by decide)]
    have fin : sequence_CheckK.l1 (k + 2 * d) ((loadsF c.length (s.take i)).set s[i].f2.toNat (wrap64 (rd (loadsF c.length (s.take i)) s[i].f2 + s[i].f1))) ((loadsS c.length (s.take i)).set s[i].f3.toNat (wrap64 (rd (loadsS c.length (s.take i)) s[i].f3 + s[i].f1))) s (s.length : Int) (wrap64 ((i : Int) + 1)) c s f g = sequence_CheckK.l1 k (loadsF c.length s) (loadsS c.length s) s (s.length : Int) (s.length : Int) c s f g := by
      rw [e1, e2, wrap_nat i (by omega), ih]
    by_cases h0 : i = 0
    · subst h0
      rw [if_neg (by omega), if_pos h3, if_pos (by omega), if_pos h5, if_pos (by omega)]
      exact fin
    · obtain ⟨p, rfl⟩ : ∃ p, i = p + 1 := ⟨i - 1, by omega⟩
      have hw : wrap64 (((p + 1 : Nat) : Int) - 1) = (p : Int) := by unfold wrap64; omega
      have ho := hlt p hi
      rw [if_pos (by omega), hw, if_pos (by omega), if_pos (by omega), rd60 s p (by omega)]
      rcases ho with ho | ⟨ho, ho2⟩
      · rw [if_neg (by omega), if_neg (by omega), if_pos h3, if_pos (by omega), if_pos h5, if_pos (by omega)]
        exact fin
      · rw [if_neg (by omega), if_pos ho.symm, if_neg (by omega), if_pos h3, if_pos (by omega), if_pos h5, if_pos (by omega)]
        exact fin

/-- A plan that keeps the rules is accepted. -/
theorem check_ok (c : List Int) (s : List S60) (hm : sequence_machine.f c = some true) (hs : s.length ≤ 1000) (hw : ∃ t, sequence_wrong.f (stopsOf s) = some t ∧ t < 0) (hok : ∀ x ∈ s, GoodSeat c.length x)
    (hlt : ∀ (i : Nat) (h : i + 1 < s.length), seatLt s[i] s[i + 1]) (hl : ∀ i : Nat, i < c.length → rd (loadsF c.length s) i ≤ rd c i ∧ rd (loadsS c.length s) i ≤ rd c i) :
    sequence_CheckK.f 5000 c s (loadsF c.length s) (loadsS c.length s) = some (0, 0) := by
  obtain ⟨hn1, hn, _⟩ := machine_true hm
  obtain ⟨t, ht, htn⟩ := hw
  have bl : (loadsF c.length s).length = c.length := (loads_bound (·.f2) c.length s (fun y hy => by obtain ⟨z1, z2, z3, z4, z5, z6⟩ := hok y hy; exact ⟨z3, z4, z1, z2⟩)).1
  have bl' : (loadsS c.length s).length = c.length := (loads_bound (·.f3) c.length s (fun y hy => by obtain ⟨z1, z2, z3, z4, z5, z6⟩ := hok y hy; exact ⟨z5, z6, z1, z2⟩)).1
  obtain ⟨r, hr⟩ : ∃ r, 5000 = (r + c.length + 1 + c.length + 1 + 1 + 1 + 2 * s.length + 1) + s.length := ⟨5000 - (c.length + 1 + c.length + 1 + 1 + 1 + 2 * s.length + 1 + s.length), by omega⟩
  unfold sequence_CheckK.f
  rw [hm, Option.bind_some, if_pos rfl, if_neg (by omega), hr]
  have h0 := check_l0 c (loadsF c.length s) (loadsS c.length s) s hs s.length 0 (r + c.length + 1 + c.length + 1 + 1 + 1 + 2 * s.length + 1) (by omega)
  have h1 := check_l1 c (loadsF c.length s) (loadsS c.length s) s hs hn hok hlt s.length 0 (r + c.length + 1 + c.length + 1 + 1 + 1) (by omega)
  simp only [List.take_zero] at h0 h1
  rw [show ([] : List S27) = stopsOf [] from rfl]
  refine h0.trans ?_
  rw [sequence_CheckK.l0, if_neg (by omega), ht, Option.bind_some, if_neg (by omega), if_pos (by omega), if_pos (by omega)]
  rw [show ((c.length : Int)).toNat = c.length by omega]
  refine h1.trans ?_
  rw [sequence_CheckK.l1, if_neg (by omega), if_pos (by rw [bl]), show (((loadsS c.length s).length : Int) != (c.length : Int)) = false by rw [bl']; simp, sequence_CheckK.j3, if_neg (by decide)]
  have h2 := check_l2 c (loadsF c.length s) (loadsS c.length s) s bl bl' hn c.length 0 (r + c.length + 1) (by omega)
  have h3 := check_l3 c (loadsF c.length s) (loadsS c.length s) bl bl' hn hl c.length 0 r (by omega)
  exact h2.trans h3
end Go.Proofs.Ytbhcchcjmgfpiaa.Print

/- The seats of sequence.Make's rule keep the rules of Check: in order, within the stackers, within the capacities. Plain Lean. -/
namespace Go.Proofs.Ytbhcchcjmgfpiaa.Print
open Go.RowKit Go.Proofs.YtbhcchcjmgfpiaaW.PrintWords Go.Proofs.YtbhcchcjmgfpiaaW.PrintLast Go.Proofs.YtbhcchcjmgfpiaaW.PrintMore

theorem adv_spec (most v : Int) : ∀ (cs : List Int) (a m ld : Int),
    (adv most v cs a m ld).1 = a + cs.length ∨ ∃ i : Nat, ∃ h : i < cs.length, (adv most v cs a m ld).1 = a + i ∧ (adv most v cs a m ld).2.1 ≠ most ∧ (adv most v cs a m ld).2.2 + v ≤ cs[i] ∧
      ((i = 0 ∧ (adv most v cs a m ld).2 = (m, ld)) ∨ (0 < i ∧ (adv most v cs a m ld).2 = (0, 0)))
  | [], a, m, ld => .inl (by simp [adv])
  | c :: cs, a, m, ld => by
    rw [adv]
    by_cases hc : m = most ∨ ld + v > c
    · rw [if_pos hc]
      rcases adv_spec most v cs (a + 1) 0 0 with h | ⟨i, hi, h1, h2, h3, h4⟩
      · exact .inl (by rw [h]; simp; omega)
      · refine .inr ⟨i + 1, by simp; omega, by rw [h1]; omega, h2, by simpa using h3, .inr ⟨by omega, ?_⟩⟩
        rcases h4 with ⟨_, h4⟩ | ⟨_, h4⟩ <;> exact h4
    · rw [if_neg hc]
      exact .inr ⟨0, by simp, by simp, fun h => hc (.inl h), by simp; omega, .inl ⟨rfl, rfl⟩⟩
/-- One stop from stacker a on. -/
theorem adv_step (caps : List Int) (most v : Int) (a : Nat) (ha : a ≤ caps.length) (m ld : Int) :
    (adv most v (caps.drop a) a m ld).1 = caps.length ∨ ∃ b : Nat, a ≤ b ∧ b < caps.length ∧ (adv most v (caps.drop a) a m ld).1 = b ∧ (adv most v (caps.drop a) a m ld).2.1 ≠ most ∧ (adv most v (caps.drop a) a m ld).2.2 + v ≤ rd caps b ∧
      ((b = a ∧ (adv most v (caps.drop a) a m ld).2 = (m, ld)) ∨ (a < b ∧ (adv most v (caps.drop a) a m ld).2 = (0, 0))) := by
  rcases adv_spec most v (caps.drop a) a m ld with h | ⟨i, hi, h1, h2, h3, h4⟩
  · exact .inl (by rw [h, List.length_drop]; omega)
  · rw [List.length_drop] at hi
    refine .inr ⟨a + i, by omega, by omega, by rw [h1]; omega, h2, ?_, ?_⟩
    · rw [List.getElem_drop] at h3
      have e : rd caps ((a + i : Nat) : Int) = caps[a + i] := by
        rw [rd, Int.toNat_natCast, List.getD_eq_getElem?_getD, List.getElem?_eq_getElem (show a + i < caps.length by omega)]
        rfl
      rw [e]
      exact h3
    · rcases h4 with ⟨rfl, h4⟩ | ⟨h5, h4⟩
      · exact .inl ⟨rfl, h4⟩
      · exact .inr ⟨by omega, h4⟩

def sumOn (j : Int) : List S60 → Int
  | [] => 0
  | x :: xs => (if x.f3 = j then x.f1 else 0) + sumOn j xs
theorem loadsS_sum (n : Nat) (l : List S60) (h : ∀ x ∈ l, 0 ≤ x.f3 ∧ x.f3 < n) (j : Int) (hj : 0 ≤ j) : rd (loadsS n l) j = sumOn j l := by
  suffices key : ∀ (l : List S60) (acc : List Int), acc.length = n → (∀ x ∈ l, 0 ≤ x.f3 ∧ x.f3 < n) → rd (l.foldl (fun acc x => putI acc x.f3 x.f1) acc) j = rd acc j + sumOn j l by
    have := key l (List.replicate n 0) (by simp) h
    rw [rd_zeros] at this
    simpa [loadsS] using this
  intro l
  induction l with
  | nil => intro acc _ _; simp [sumOn]
  | cons x xs ih =>
    intro acc ha hx
    obtain ⟨h0, h1⟩ := hx x (by simp)
    rw [List.foldl_cons, ih _ (by rw [putI_len, ha]) (fun y hy => hx y (by simp [hy])), rd_putI _ _ _ _ h0 hj (by omega), sumOn]
    split
    · rename_i e
      rw [e]
      omega
    · omega

/-- What the seats from the state (a, m, ld) on are like. -/
theorem seatL_facts (caps : List Int) (most : Int) (hmost : most ≤ caps.length) : ∀ (l : List S27) (a : Nat) (m ld : Int), (∀ x ∈ l, 1 ≤ x.f1 ∧ x.f1 ≤ 10000) → a ≤ caps.length → 0 ≤ m → m ≤ most →
    stopsOf (seatL caps most a m ld l) = l.take (seatL caps most a m ld l).length ∧
    (∀ x ∈ seatL caps most a m ld l, GoodSeat caps.length x ∧ (a : Int) ≤ x.f3 ∧ (x.f3 = a → m ≤ x.f2)) ∧
    (seatL caps most a m ld l).Pairwise seatLt ∧
    (∀ j : Nat, j < caps.length → (j = a → ld ≤ rd caps a) → 0 ≤ rd caps j → (if j = a then ld else 0) + sumOn j (seatL caps most a m ld l) ≤ rd caps j)
  | [], a, m, ld, _, _, _, _ => by
    refine ⟨rfl, fun x hx => by simp [seatL] at hx, by simp [seatL], fun j hj h1 h2 => ?_⟩
    simp only [seatL, sumOn]
    split
    · rename_i e
      have := h1 e
      subst e
      omega
    · omega
  | x :: xs, a, m, ld, hv, ha, hm0, hm => by
    rw [seatL]
    simp only [Int.toNat_natCast]
    rcases adv_step caps most x.f1 a ha m ld with h | ⟨b, hab, hb, h1, h2, h3, h4⟩
    · rw [if_pos h]
      refine ⟨rfl, fun x hx => (by cases hx), List.Pairwise.nil, fun j hj h1 h2 => ?_⟩
      simp only [sumOn]
      split
      · rename_i e
        have := h1 e
        subst e
        omega
      · omega
    · rw [if_neg (by rw [h1]; omega), h1]
      generalize (adv most x.f1 (caps.drop a) a m ld).2 = r at h2 h3 h4 ⊢
      obtain ⟨m', ld'⟩ := r
      simp only at h2 h3 h4 ⊢
      have hx := hv x (by simp)
      have hm' : 0 ≤ m' ∧ m' < most := by
        rcases h4 with ⟨_, e⟩ | ⟨_, e⟩ <;> cases e <;> omega
      have ih := seatL_facts caps most hmost xs b (m' + 1) (ld' + x.f1) (fun y hy => hv y (by simp [hy])) (by omega) (by omega) (by omega)
      obtain ⟨i1, i2, i3, i4⟩ := ih
      refine ⟨?_, ?_, ?_, ?_⟩
      · rw [stopsOf, List.map_cons, List.length_cons, List.take_succ_cons]
        rw [stopsOf] at i1
        rw [i1]
      · intro y hy
        rcases List.mem_cons.1 hy with rfl | hy
        · refine ⟨⟨hx.1, hx.2, hm'.1, by simp only; omega, by simp only; omega, by simp only; omega⟩, by simp only; omega, fun e => ?_⟩
          simp only at e ⊢
          rcases h4 with ⟨_, e4⟩ | ⟨hlt, _⟩
          · cases e4
            omega
          · omega
        · obtain ⟨g1, g2, g3⟩ := i2 y hy
          refine ⟨g1, by omega, fun e => ?_⟩
          have : b = a := by omega
          rcases h4 with ⟨_, e4⟩ | ⟨hlt, _⟩
          · cases e4
            have := g3 (by omega)
            omega
          · omega
      · refine List.Pairwise.cons (fun y hy => ?_) i3
        obtain ⟨g1, g2, g3⟩ := i2 y hy
        by_cases e : y.f3 = (b : Int)
        · exact .inr ⟨e.symm, by have := g3 e; simp only; omega⟩
        · exact .inl (by simp only; omega)
      · intro j hj hja hj0
        simp only [sumOn]
        have i4j := i4 j hj (fun _ => h3) hj0
        by_cases ejb : j = b
        · subst ejb
          rw [if_pos rfl] at i4j
          have e1 : (if (j : Int) = (j : Int) then x.f1 else 0) = x.f1 := if_pos rfl
          rw [e1]
          rcases h4 with ⟨e, e4⟩ | ⟨hlt, e4⟩
          · cases e4
            rw [if_pos e]
            omega
          · cases e4
            rw [if_neg (by omega)]
            omega
        · rw [if_neg ejb] at i4j
          have e1 : (if (b : Int) = (j : Int) then x.f1 else 0) = 0 := if_neg (by omega)
          rw [e1]
          by_cases eja : j = a
          · rw [if_pos eja]
            have hz : sumOn (j : Int) (seatL caps most b (m' + 1) (ld' + x.f1) xs) = 0 := by
              have : ∀ (l : List S60), (∀ y ∈ l, (b : Int) ≤ y.f3) → sumOn (j : Int) l = 0 := by
                intro l
                induction l with
                | nil => intro _; rfl
                | cons y ys ihy =>
                  intro hy
                  have h1 := hy y (by simp)
                  rw [sumOn, if_neg (by omega), ihy (fun z hz => hy z (by simp [hz]))]
                  rfl
              exact this _ (fun y hy => (i2 y hy).2.1)
            have := hja eja
            subst eja
            rw [hz]
            omega
          · rw [if_neg eja]
            omega
end Go.Proofs.Ytbhcchcjmgfpiaa.Print

/- What sequence.Make gives, in plain words, and that sequence.Check accepts its plans. Plain Lean. -/
namespace Go.Proofs.Ytbhcchcjmgfpiaa.Print
open Go.RowKit Go.Proofs.YtbhcchcjmgfpiaaW.PrintWords Go.Proofs.YtbhcchcjmgfpiaaW.PrintLast Go.Proofs.YtbhcchcjmgfpiaaW.PrintMore

/-- What holds of stops and capacities that pass the first looks of Make. -/
def Fit (stops : List S27) (caps : List Int) : Prop := sequence_machine.f caps = some true ∧ stops.length ≤ 1000 ∧ ∃ t, sequence_wrong.f stops = some t ∧ t < 0
theorem Fit.vol {stops : List S27} {caps : List Int} (h : Fit stops caps) : ∀ x ∈ stops, 1 ≤ x.f1 ∧ x.f1 ≤ 10000 := by
  obtain ⟨_, _, t, ht, hn⟩ := h
  intro x hx
  unfold sequence_wrong.f at ht
  split at ht
  · have := wrongFrom_neg stops [] 0 (by simp only [Option.some.injEq] at ht; omega) x hx
    simp [badStop] at this
    omega
  · cases ht

theorem makeFrom_some (stops : List S27) (caps : List Int) (hc : ∀ c ∈ caps, 1 ≤ c) : ∀ (k : Nat) (s : List S60), makeFrom stops caps k = some s → ∃ m : Nat, m ≤ k ∧ planOk stops caps m = true ∧ s = seatL caps m 0 0 0 stops
  | 0, s, h => by
    rw [makeFrom] at h
    split at h
    · rename_i h0
      have he : stops = [] := List.length_eq_zero_iff.1 h0
      subst he
      cases h
      refine ⟨0, Nat.le_refl _, ?_, rfl⟩
      simp only [planOk, seatL, loadsF, List.length_nil, List.foldl_nil, decide_true, Bool.true_and]
      exact withinL_zeros caps hc
    · cases h
  | k + 1, s, h => by
    rw [makeFrom] at h
    split at h
    · rename_i hp
      cases h
      exact ⟨k + 1, Nat.le_refl _, hp, rfl⟩
    · obtain ⟨m, h1, h2, h3⟩ := makeFrom_some stops caps hc k s h
      exact ⟨m, by omega, h2, h3⟩
/-- No limit up to k does. -/
theorem makeFrom_none (stops : List S27) (caps : List Int) (h0 : stops.length ≠ 0) : ∀ (k : Nat), (makeFrom stops caps k = none ↔ ∀ m : Nat, 1 ≤ m → m ≤ k → planOk stops caps m = false)
  | 0 => by
    rw [makeFrom, if_neg h0]
    exact ⟨fun _ m h1 h2 => by omega, fun _ => rfl⟩
  | k + 1 => by
    rw [makeFrom]
    have ih := makeFrom_none stops caps h0 k
    cases hp : planOk stops caps ((k + 1 : Nat) : Int) with
    | true =>
      rw [if_pos rfl]
      refine ⟨fun h => (by cases h), fun h => ?_⟩
      have := h (k + 1) (by omega) (by omega)
      rw [hp] at this
      cases this
    | false =>
      rw [if_neg (by decide), ih]
      refine ⟨fun h m h1 h2 => ?_, fun h m h1 h2 => h m h1 (by omega)⟩
      by_cases e : m = k + 1
      · subst e
        exact hp
      · exact h m h1 (by omega)

theorem withinL_rd : ∀ (F c : List Int), F.length = c.length → withinL F c = true → ∀ i : Nat, i < c.length → rd F i ≤ rd c i
  | [], [], _, _, i, h => by simp at h
  | x :: F, y :: c, hl, h, i, hi => by
    simp only [withinL, List.zip_cons_cons, List.all_cons, Bool.and_eq_true, decide_eq_true_eq] at h
    cases i with
    | zero => exact h.1
    | succ i =>
      have := withinL_rd F c (by simpa using hl) h.2 i (by simpa using hi)
      simp only [rd, Int.toNat_natCast] at this ⊢
      simpa using this
  | [], _ :: _, hl, _, _, _ => by simp at hl
  | _ :: _, [], hl, _, _, _ => by simp at hl

/-- Check accepts a plan of the rule. -/
theorem check_seats (stops : List S27) (caps : List Int) (hf : Fit stops caps) (m : Nat) (hm : m ≤ caps.length) (hp : planOk stops caps m = true) :
    sequence_CheckK.f 5000 caps (seatL caps m 0 0 0 stops) (loadsF caps.length (seatL caps m 0 0 0 stops)) (loadsS caps.length (seatL caps m 0 0 0 stops)) = some (0, 0) := by
  have hv := hf.vol
  obtain ⟨hmc, hl, t, ht, htn⟩ := hf
  obtain ⟨hn1, hn, hcap⟩ := machine_true hmc
  simp only [planOk, Bool.and_eq_true, decide_eq_true_eq] at hp
  obtain ⟨hlen, hw⟩ := hp
  obtain ⟨f1, f2, f3, f4⟩ := seatL_facts caps m (by omega) stops 0 0 0 hv (by omega) (by omega) (by omega)
  rw [show ((0 : Nat) : Int) = 0 from rfl] at f1 f2 f3 f4
  have hcaps : ∀ i : Nat, i < caps.length → 1 ≤ rd caps i := fun i hi => by
    have := hcap caps[i] (List.getElem_mem hi)
    rw [rd, Int.toNat_natCast, List.getD_eq_getElem?_getD, List.getElem?_eq_getElem hi]
    exact this.1
  refine check_ok caps _ hmc (by omega) ?_ (fun x hx => (f2 x hx).1) (fun i hi => ?_) (fun i hi => ⟨?_, ?_⟩)
  · rw [f1, hlen, List.take_length]
    exact ⟨t, ht, htn⟩
  · exact List.pairwise_iff_getElem.1 f3 i (i + 1) (by omega) hi (by omega)
  · refine withinL_rd _ _ ?_ hw i hi
    exact (loads_bound (·.f2) caps.length _ (fun y hy => by obtain ⟨⟨z1, z2, z3, z4, z5, z6⟩, _⟩ := f2 y hy; exact ⟨z3, z4, z1, z2⟩)).1
  · rw [loadsS_sum caps.length _ (fun y hy => by obtain ⟨⟨z1, z2, z3, z4, z5, z6⟩, _⟩ := f2 y hy; exact ⟨z5, z6⟩) i (by omega)]
    have h1 := hcaps i hi
    have h0 := hcaps 0 (by omega)
    have := f4 i hi (fun e => by subst e; exact Int.le_trans (by decide) h0) (by omega)
    split at this <;> omega

/-- The ways in which Make ends. -/
theorem make_cases (stops : List S27) (caps : List Int) (r : MakeR) (h : sequence_Make.f stops caps = some r) :
    (∃ e, e ≠ 0 ∧ r = ([], [], [], [], e)) ∨ (Fit stops caps ∧ ∃ m : Nat, m ≤ min stops.length caps.length ∧ planOk stops caps m = true ∧
      r = (caps, seatL caps m 0 0 0 stops, loadsF caps.length (seatL caps m 0 0 0 stops), loadsS caps.length (seatL caps m 0 0 0 stops), 0)) := by
  unfold sequence_Make.f at h
  obtain ⟨b, hb, h⟩ := Option.bind_eq_some_iff.1 h
  split at h
  · rename_i hb1
    subst hb1
    split at h
    · exact .inl ⟨5, by decide, (Option.some.inj h).symm⟩
    · rename_i hl
      obtain ⟨t, ht, h⟩ := Option.bind_eq_some_iff.1 h
      split at h
      · exact .inl ⟨281, by decide, (Option.some.inj h).symm⟩
      · rename_i htn
        have hr := Option.some.inj h
        unfold makeG at hr
        split at hr
        · rename_i s hs
          obtain ⟨m, h1, h2, h3⟩ := makeFrom_some stops caps (fun c hc => ((machine_true hb).2.2 c hc).1) _ s hs
          subst h3
          exact .inr ⟨⟨hb, by omega, t, ht, by omega⟩, m, h1, h2, hr.symm⟩
        · exact .inl ⟨4, by decide, hr.symm⟩
  · exact .inl ⟨280, by decide, (Option.some.inj h).symm⟩
end Go.Proofs.Ytbhcchcjmgfpiaa.Print

/- Equal volumes and equal capacities that hold as many stops as there are stackers: the rule seats up to the square of the number of stackers, and no more. Plain Lean. -/
namespace Go.Proofs.Ytbhcchcjmgfpiaa.Print
open Go.RowKit Go.Proofs.YtbhcchcjmgfpiaaW.PrintWords Go.Proofs.YtbhcchcjmgfpiaaW.PrintLast Go.Proofs.YtbhcchcjmgfpiaaW.PrintMore

/-- No stacker takes more than the limit. -/
theorem seatL_count (caps : List Int) (most : Nat) : ∀ (l : List S27) (a m : Nat) (ld : Int), a ≤ caps.length → m ≤ most →
    (seatL caps most a m ld l).length + m ≤ (caps.length - a) * most ∨ (seatL caps most a m ld l).length = 0
  | [], a, m, ld, _, _ => .inr rfl
  | x :: xs, a, m, ld, ha, hm => by
    rw [seatL]
    simp only [Int.toNat_natCast]
    rcases adv_step caps most x.f1 a ha m ld with h | ⟨b, hab, hb, h1, h2, h3, h4⟩
    · rw [if_pos h]
      exact .inr rfl
    · rw [if_neg (by rw [h1]; omega), h1]
      generalize (adv most x.f1 (caps.drop a) a m ld).2 = r at h2 h3 h4 ⊢
      obtain ⟨m', ld'⟩ := r
      simp only at h2 h3 h4 ⊢
      left
      rw [List.length_cons]
      rcases h4 with ⟨e, e4⟩ | ⟨hlt, e4⟩
      · cases e4
        subst e
        have hmm : m < most := by omega
        have ih := seatL_count caps most xs b (m + 1) (ld + x.f1) (by omega) (by omega)
        rw [show (((m + 1 : Nat)) : Int) = (m : Int) + 1 by omega] at ih
        have hpos : most ≤ (caps.length - b) * most := Nat.le_mul_of_pos_left _ (by omega)
        rcases ih with ih | ih <;> omega
      · cases e4
        have hmm : 0 < most := by omega
        have ih := seatL_count caps most xs b 1 (0 + x.f1) (by omega) (by omega)
        rw [show (((1 : Nat)) : Int) = 0 + 1 by omega] at ih
        have h5 : (caps.length - b) * most + most ≤ (caps.length - a) * most := by
          rw [← Nat.succ_mul]
          exact Nat.mul_le_mul_right _ (by omega)
        have hpos : most ≤ (caps.length - b) * most := Nat.le_mul_of_pos_left _ (by omega)
        rcases ih with ih | ih <;> omega
theorem plan_none (caps : List Int) (stops : List S27) (m : Nat) (h : caps.length * m < stops.length) : planOk stops caps m = false := by
  have := seatL_count caps m stops 0 0 0 (by omega) (by omega)
  rw [show ((0 : Nat) : Int) = 0 from rfl] at this
  unfold planOk
  have hne : ¬ (seatL caps m 0 0 0 stops).length = stops.length := by
    rcases this with h1 | h1
    · rw [Nat.sub_zero, Nat.add_zero] at h1
      omega
    · omega
  rw [decide_eq_false hne, Bool.false_and]

def sumF (j : Int) : List S60 → Int
  | [] => 0
  | x :: xs => (if x.f2 = j then x.f1 else 0) + sumF j xs
theorem loadsF_sum (n : Nat) (l : List S60) (h : ∀ x ∈ l, 0 ≤ x.f2 ∧ x.f2 < n) (j : Int) (hj : 0 ≤ j) : rd (loadsF n l) j = sumF j l := by
  suffices key : ∀ (l : List S60) (acc : List Int), acc.length = n → (∀ x ∈ l, 0 ≤ x.f2 ∧ x.f2 < n) → rd (l.foldl (fun acc x => putI acc x.f2 x.f1) acc) j = rd acc j + sumF j l by
    have := key l (List.replicate n 0) (by simp) h
    rw [rd_zeros] at this
    simpa [loadsF] using this
  intro l
  induction l with
  | nil => intro acc _ _; simp [sumF]
  | cons x xs ih =>
    intro acc ha hx
    obtain ⟨h0, h1⟩ := hx x (by simp)
    rw [List.foldl_cons, ih _ (by rw [putI_len, ha]) (fun y hy => hx y (by simp [hy])), rd_putI _ _ _ _ h0 hj (by omega), sumF]
    split
    · rename_i e
      rw [e]
      omega
    · omega

/-- Equal volumes v, equal capacities C that hold most stops: all are seated, as long as there is room by number; and no first stacker is loaded more than v times the number of stackers left. -/
theorem seatL_equal (n : Nat) (v C : Int) (most : Nat) (hv : 1 ≤ v) (hC : (most : Int) * v ≤ C) (hmo : 0 < most) : ∀ (l : List S27) (a m : Nat), (∀ x ∈ l, x.f1 = v) → a < n → m ≤ most → l.length + m ≤ (n - a) * most →
    (seatL (List.replicate n C) most a m ((m : Int) * v) l).length = l.length ∧ ∀ j : Nat, sumF j (seatL (List.replicate n C) most a m ((m : Int) * v) l) + (if j < m then v else 0) ≤ ((n - a : Nat) : Int) * v
  | [], a, m, _, ha, _, _ => by
    refine ⟨rfl, fun j => ?_⟩
    have h1 : v ≤ ((n - a : Nat) : Int) * v := by
      have : (1 : Int) * v ≤ ((n - a : Nat) : Int) * v := Int.mul_le_mul_of_nonneg_right (by omega) (by omega)
      omega
    simp only [seatL, sumF]
    split <;> omega
  | x :: xs, a, m, hx, ha, hm, hroom => by
    have hxv := hx x (by simp)
    have hlen : (List.replicate n C).length = n := List.length_replicate
    have hdrop : (List.replicate n C).drop a = C :: List.replicate (n - a - 1) C := by
      rw [List.drop_replicate, show n - a = (n - a - 1) + 1 by omega, List.replicate_succ]
      rfl
    rw [seatL]
    simp only [Int.toNat_natCast, hdrop, hlen, hxv]
    by_cases hfull : m = most
    · subst hfull
      have hroom2 : 1 ≤ n - a - 1 := by
        by_cases h0 : n - a - 1 = 0
        · have : n - a = 1 := by omega
          rw [this, Nat.one_mul, List.length_cons] at hroom
          omega
        · omega
      have hmul : (n - (a + 1)) * m + m = (n - a) * m := by
        rw [← Nat.succ_mul]
        congr 1
        omega
      have hd2 : List.replicate (n - a - 1) C = C :: List.replicate (n - a - 1 - 1) C := by
        rw [show n - a - 1 = (n - a - 1 - 1) + 1 by omega, List.replicate_succ]
        rfl
      have e1 : adv (m : Int) v (C :: List.replicate (n - a - 1) C) a m ((m : Int) * v) = ((a : Int) + 1, 0, 0) := by
        have hvC : v ≤ C := by
          have : (1 : Int) * v ≤ (m : Int) * v := Int.mul_le_mul_of_nonneg_right (by omega) (by omega)
          omega
        rw [adv, if_pos (.inl rfl), hd2, adv, if_neg (by omega)]
      rw [e1, if_neg (by simp only; omega)]
      have ih := seatL_equal n v C m hv hC hmo xs (a + 1) 1 (fun y hy => hx y (by simp [hy])) (by omega) (by omega) (by rw [List.length_cons] at hroom; omega)
      rw [show (((a + 1 : Nat)) : Int) = (a : Int) + 1 by omega, show ((1 : Nat) : Int) = 0 + 1 by omega, show ((0 : Int) + 1) * v = 0 + v by omega] at ih
      obtain ⟨i1, i2⟩ := ih
      refine ⟨by rw [List.length_cons, List.length_cons, i1], fun j => ?_⟩
      have := i2 j
      have hmulI : ((n - (a + 1) : Nat) : Int) * v + v = ((n - a : Nat) : Int) * v := by
        rw [show ((n - a : Nat) : Int) = ((n - (a + 1) : Nat) : Int) + 1 by omega, Int.add_mul, Int.one_mul]
      have hle : (if j < m then v else 0) ≤ v := by split <;> omega
      generalize (if j < m then v else 0) = z at hle ⊢
      simp only [sumF]
      by_cases hj0 : j = 0
      · subst hj0
        rw [if_pos (by omega)] at this
        rw [if_pos (by omega)]
        omega
      · rw [if_neg (by omega)] at this
        rw [if_neg (by omega)]
        omega
    · have hfit : ((m : Int) + 1) * v ≤ (most : Int) * v := Int.mul_le_mul_of_nonneg_right (by omega) (by omega)
      rw [Int.add_mul, Int.one_mul] at hfit
      have e1 : adv (most : Int) v (C :: List.replicate (n - a - 1) C) a m ((m : Int) * v) = ((a : Int), (m : Int), (m : Int) * v) := by
        rw [adv, if_neg (by omega)]
      rw [e1, if_neg (by simp only; omega)]
      have ih := seatL_equal n v C most hv hC hmo xs a (m + 1) (fun y hy => hx y (by simp [hy])) ha (by omega) (by rw [List.length_cons] at hroom; omega)
      rw [show (((m + 1 : Nat)) : Int) = (m : Int) + 1 by omega, Int.add_mul, Int.one_mul] at ih
      obtain ⟨i1, i2⟩ := ih
      refine ⟨by rw [List.length_cons, List.length_cons, i1], fun j => ?_⟩
      have := i2 j
      simp only [sumF]
      by_cases h1 : j < m
      · rw [if_pos (by omega)] at this
        rw [if_pos h1, if_neg (by omega)]
        omega
      · rw [if_neg h1]
        by_cases h2 : j = m
        · subst h2
          rw [if_pos (by omega)] at this
          rw [if_pos rfl]
          omega
        · rw [if_neg (by omega)] at this
          rw [if_neg (by omega)]
          omega
end Go.Proofs.Ytbhcchcjmgfpiaa.Print

/- Make at equal stops and equal stackers: a plan up to the square, none beyond. Plain Lean. -/
namespace Go.Proofs.Ytbhcchcjmgfpiaa.Print
open Go.RowKit Go.Proofs.YtbhcchcjmgfpiaaW.PrintWords Go.Proofs.YtbhcchcjmgfpiaaW.PrintLast Go.Proofs.YtbhcchcjmgfpiaaW.PrintMore

theorem wrongFrom_fine : ∀ (l : List S27) (pre : List Int) (k : Nat), (∀ x ∈ l, badStop x = false) → (pre ++ l.map (·.f0)).Nodup → wrongFrom pre k l = -1
  | [], _, _, _, _ => rfl
  | x :: xs, pre, k, h, hn => by
    have hnx : pre.contains x.f0 = false := by
      rw [List.contains_eq_mem, decide_eq_false_iff_not]
      intro hm
      rw [List.nodup_append] at hn
      exact hn.2.2 x.f0 hm x.f0 (by simp) rfl
    rw [wrongFrom, hnx, h x (by simp), Bool.or_self, if_neg (by decide)]
    exact wrongFrom_fine xs _ _ (fun y hy => h y (by simp [hy])) (by simpa using hn)
theorem withinL_of : ∀ (F c : List Int), F.length = c.length → (∀ i : Nat, i < c.length → rd F i ≤ rd c i) → withinL F c = true
  | [], [], _, _ => rfl
  | x :: F, y :: c, hl, h => by
    have h0 := h 0 (by simp)
    have ih := withinL_of F c (by simpa using hl) (fun i hi => by
      have := h (i + 1) (by simpa using hi)
      simp only [rd, Int.toNat_natCast] at this ⊢
      simpa using this)
    simp only [withinL, List.zip_cons_cons, List.all_cons, Bool.and_eq_true, decide_eq_true_eq] at ih ⊢
    exact ⟨by simpa [rd] using h0, ih⟩
  | [], _ :: _, hl, _ => by simp at hl
  | _ :: _, [], hl, _ => by simp at hl
theorem rd_const (n : Nat) (C : Int) (i : Nat) (h : i < n) : rd (List.replicate n C) i = C := by
  rw [rd, Int.toNat_natCast, List.getD_eq_getElem?_getD, List.getElem?_replicate_of_lt h]
  rfl

/-- n stops of the volume v, numbered from 1. -/
def eqStops (n : Nat) (v : Int) : List S27 := (List.range n).map fun (i : Nat) => (⟨(i : Int) + 1, v⟩ : S27)
theorem eqStops_len (n : Nat) (v : Int) : (eqStops n v).length = n := by simp [eqStops]
theorem eqStops_vol (n : Nat) (v : Int) : ∀ x ∈ eqStops n v, x.f1 = v := by
  intro x hx
  obtain ⟨i, _, rfl⟩ := List.mem_map.1 hx
  rfl
theorem eq_fit (n s : Nat) (v C : Int) (hs : 1 ≤ s) (hs2 : s ≤ 64) (hC : 1 ≤ C) (hC2 : C ≤ 100000) (hn : n ≤ 1000) (hv : 1 ≤ v) (hv2 : v ≤ 10000) : Fit (eqStops n v) (List.replicate s C) := by
  refine ⟨?_, by rw [eqStops_len]; exact hn, -1, ?_, by decide⟩
  · have : (List.replicate s C).any badCap = false := by
      rw [List.any_eq_false]
      intro x hx
      rw [List.eq_of_mem_replicate hx]
      simp [badCap]
      omega
    simp only [sequence_machine.f, List.length_replicate, this]
    simp
    omega
  · unfold sequence_wrong.f
    rw [if_pos, wrongFrom_fine]
    · intro x hx
      obtain ⟨i, hi, rfl⟩ := List.mem_map.1 hx
      have := List.mem_range.1 hi
      simp [badStop]
      omega
    · rw [List.nil_append, eqStops, List.map_map]
      refine List.Pairwise.map _ (fun (a b : Nat) (h : a ≠ b) => ?_) List.nodup_range
      simp only [Function.comp]
      omega
    · rw [List.all_eq_true]
      intro x hx
      obtain ⟨i, hi, rfl⟩ := List.mem_map.1 hx
      have := List.mem_range.1 hi
      simp only [wfI, Lit.wf, IntKind.min, IntKind.max, IntKind.signed, IntKind.bits, Bool.and_eq_true, decide_eq_true_eq, if_true]
      omega

theorem eq_plan (n s : Nat) (v C : Int) (hs : 1 ≤ s) (hC : (s : Int) * v ≤ C) (hv : 1 ≤ v) (hv2 : v ≤ 10000) (hn : n ≤ s * s) : planOk (eqStops n v) (List.replicate s C) (min n s : Nat) = true := by
  have hCs : 1 ≤ C := by
    have : (1 : Int) * v ≤ (s : Int) * v := Int.mul_le_mul_of_nonneg_right (by omega) (by omega)
    omega
  by_cases h0 : n = 0
  · subst h0
    have : eqStops 0 v = [] := rfl
    rw [this]
    simp only [planOk, seatL, loadsF, List.length_nil, List.foldl_nil, decide_true, Bool.true_and]
    exact withinL_zeros _ (fun c hc => by rw [List.eq_of_mem_replicate hc]; exact hCs)
  · obtain ⟨m, hm⟩ : ∃ m, min n s = m := ⟨_, rfl⟩
    rw [hm]
    have hms : m ≤ s := by omega
    have hmC : (m : Int) * v ≤ C := by
      have : (m : Int) * v ≤ (s : Int) * v := Int.mul_le_mul_of_nonneg_right (by omega) (by omega)
      omega
    have hroom : (eqStops n v).length + 0 ≤ (s - 0) * m := by
      rw [eqStops_len, Nat.sub_zero, Nat.add_zero]
      by_cases h1 : n ≤ s
      · have : m = n := by omega
        rw [this]
        exact Nat.le_mul_of_pos_left _ (by omega)
      · have : m = s := by omega
        rw [this]
        exact hn
    obtain ⟨e1, e2⟩ := seatL_equal s v C m hv hmC (by omega) (eqStops n v) 0 0 (eqStops_vol n v) (by omega) (by omega) hroom
    rw [show ((0 : Nat) : Int) * v = 0 by simp, show ((0 : Nat) : Int) = 0 from rfl] at e1 e2
    obtain ⟨f1, f2, f3, f4⟩ := seatL_facts (List.replicate s C) m (by simp; omega) (eqStops n v) 0 0 0 (fun x hx => by rw [eqStops_vol n v x hx]; exact ⟨hv, hv2⟩) (by omega) (by omega) (by omega)
    rw [show ((0 : Nat) : Int) = 0 from rfl] at f2
    simp only [planOk, e1, decide_true, Bool.true_and]
    have hg : ∀ y ∈ seatL (List.replicate s C) m 0 0 0 (eqStops n v), 0 ≤ y.f2 ∧ y.f2 < (List.replicate s C).length ∧ 1 ≤ y.f1 ∧ y.f1 ≤ 10000 := fun y hy => by
      obtain ⟨⟨z1, z2, z3, z4, z5, z6⟩, _⟩ := f2 y hy
      exact ⟨z3, z4, z1, z2⟩
    refine withinL_of _ _ (loads_bound (·.f2) _ _ hg).1 (fun i hi => ?_)
    rw [loadsF_sum _ _ (fun y hy => ⟨(hg y hy).1, (hg y hy).2.1⟩) i (by omega), rd_const s C i (by simpa using hi)]
    have := e2 i
    rw [if_neg (by omega), Nat.sub_zero] at this
    omega

/-- Make at equal stops and stackers. -/
theorem eq_make (n s : Nat) (v C : Int) (hs : 1 ≤ s) (hs2 : s ≤ 31) (hC : (s : Int) * v ≤ C) (hC2 : C ≤ 100000) (hv : 1 ≤ v) (hv2 : v ≤ 10000) (hn : n ≤ s * s + 1) (hn2 : n ≤ 1000) :
    (s * s < n → sequence_Make.f (eqStops n v) (List.replicate s C) = some ([], [], [], [], 4)) ∧
    (n ≤ s * s → ∃ t, t.length = n ∧ sequence_Make.f (eqStops n v) (List.replicate s C) = some (List.replicate s C, t, loadsF s t, loadsS s t, 0) ∧ sequence_CheckK.f 5000 (List.replicate s C) t (loadsF s t) (loadsS s t) = some (0, 0)) := by
  have hCs : 1 ≤ C := by
    have : (1 : Int) * v ≤ (s : Int) * v := Int.mul_le_mul_of_nonneg_right (by omega) (by omega)
    omega
  have hfit := eq_fit n s v C hs (by omega) hCs hC2 hn2 hv hv2
  have hmk : sequence_Make.f (eqStops n v) (List.replicate s C) = some (makeG (eqStops n v) (List.replicate s C) (min n s)) := by
    obtain ⟨h1, h2, t, h3, h4⟩ := hfit
    unfold sequence_Make.f
    rw [h1, Option.bind_some, if_pos rfl, if_neg (by omega), h3, Option.bind_some, if_neg (by omega), eqStops_len, List.length_replicate]
  refine ⟨fun h => ?_, fun h => ?_⟩
  · have hmin : min n s = s := by
      have : s * 1 ≤ s * s := Nat.mul_le_mul_left _ hs
      omega
    have hnone : makeFrom (eqStops n v) (List.replicate s C) (min n s) = none := by
      rw [makeFrom_none _ _ (by rw [eqStops_len]; omega)]
      intro m h1 h2
      refine plan_none _ _ m ?_
      rw [List.length_replicate, eqStops_len]
      have : s * m ≤ s * s := Nat.mul_le_mul_left _ (by omega)
      omega
    rw [hmk]
    unfold makeG
    rw [hnone]
  · have hp := eq_plan n s v C hs hC hv hv2 h
    have hlen : (seatL (List.replicate s C) (min n s : Nat) 0 0 0 (eqStops n v)).length = n := by
      have := hp
      simp only [planOk, Bool.and_eq_true, decide_eq_true_eq] at this
      rw [this.1, eqStops_len]
    refine ⟨seatL (List.replicate s C) (min n s : Nat) 0 0 0 (eqStops n v), hlen, ?_, ?_⟩
    · rw [hmk]
      have hsome : makeFrom (eqStops n v) (List.replicate s C) (min n s) = some (seatL (List.replicate s C) (min n s : Nat) 0 0 0 (eqStops n v)) := by
        by_cases h0 : n = 0
        · subst h0
          rw [Nat.zero_min]
          rfl
        · obtain ⟨k, hk⟩ : ∃ k, min n s = k + 1 := ⟨min n s - 1, by omega⟩
          rw [hk] at hp ⊢
          rw [makeFrom, if_pos hp]
      unfold makeG
      rw [hsome]
      simp only [List.length_replicate]
    · have := check_seats (eqStops n v) (List.replicate s C) hfit (min n s) (by simp; omega) hp
      simpa only [List.length_replicate] using this
end Go.Proofs.Ytbhcchcjmgfpiaa.Print
