/- The iterator of sequence.Make (the closure that sequence.seats hands back): it yields the seats of the rule for a limit, in the route's order. By hand. -/
import Derived.RangeFuncNested
import Derived.RangeFuncBound
import Derived.RangeFuncCalls
import Derived.RangeFuncLeaves
import Derived.Shelf.Abstract
import Derived.OwnWalkIn
import Derived.TacticsInMore
import Derived.LoopNIn
import Derived.LoopIn
import Derived.Sort.QuietIn
import Derived.Maps.AppendAt
import Derived.Test.YtbhcchcjmgfpiaaGd0
namespace Go.Proofs.Ytbhcchcjmgfpiaa.Print
open Go.RowKit Go.Shelf Go.Proofs.YtbhcchcjmgfpiaaW.PrintWords Go.Proofs.YtbhcchcjmgfpiaaW.PrintLast Go.Proofs.YtbhcchcjmgfpiaaW.PrintMore
attribute [local go_sem] Oper.semAt_some

/-- Stackers are passed over while the next stop does not fit (many seats taken, or no room): from stacker a on, whose capacities are the list. -/
def adv (most v : Int) : List Int → Int → Int → Int → Int × Int × Int
  | [], a, m, ld => (a, m, ld)
  | c :: cs, a, m, ld => if m = most ∨ ld + v > c then adv most v cs (a + 1) 0 0 else (a, m, ld)
/-- The seats of the rule: stops are seated from stacker a on, in which m seats are taken and ld is loaded. -/
def seatL (caps : List Int) (most : Int) : Int → Int → Int → List S27 → List S60
  | _, _, _, [] => []
  | a, m, ld, x :: xs =>
    let r := adv most x.f1 (caps.drop a.toNat) a m ld
    if r.1 = (caps.length : Int) then [] else ⟨x.f0, x.f1, r.2.1, r.1⟩ :: seatL caps most r.1 (r.2.1 + 1) (r.2.2 + x.f1) xs
theorem seatL_len (caps : List Int) (most : Int) : ∀ (l : List S27) (a m ld : Int), (seatL caps most a m ld l).length ≤ l.length
  | [], _, _, _ => by simp [seatL]
  | x :: xs, a, m, ld => by
    unfold seatL
    simp only
    split
    · simp
    · simpa using seatL_len caps most xs _ _ _
theorem adv_drop (most v : Int) (caps : List Int) (k : Nat) (hk : k < caps.length) (m ld : Int) :
    adv most v (caps.drop k) k m ld = if m = most ∨ ld + v > rd caps k then adv most v (caps.drop (k + 1)) ((k + 1 : Nat) : Int) 0 0 else ((k : Int), m, ld) := by
  rw [List.drop_eq_getElem_cons hk, adv]
  simp [rd, List.getD_eq_getElem?_getD, List.getElem?_eq_getElem hk]
theorem seatL_drop (caps : List Int) (most a m ld : Int) (l : List S27) (k : Nat) (hk : k < l.length) :
    seatL caps most a m ld (l.drop k) = (let r := adv most (rd_T27 l k).f1 (caps.drop a.toNat) a m ld
      if r.1 = (caps.length : Int) then [] else ⟨(rd_T27 l k).f0, (rd_T27 l k).f1, r.2.1, r.1⟩ :: seatL caps most r.1 (r.2.1 + 1) (r.2.2 + (rd_T27 l k).f1) (l.drop (k + 1))) := by
  rw [List.drop_eq_getElem_cons hk, seatL]
  simp [rd_T27, List.getD_eq_getElem?_getD, List.getElem?_eq_getElem hk]

theorem seat_goes (most : Int) (x : S27) (caps : List Int) (a : Nat) (m ld a' m' ld' : Int) (hne : a' ≠ (caps.length : Int)) (l : List S27) (h : adv most x.f1 (caps.drop a) a m ld = (a', m', ld')) :
    (let r := adv most x.f1 (caps.drop a) a m ld
      if r.1 = (caps.length : Int) then [] else (⟨x.f0, x.f1, r.2.1, r.1⟩ : S60) :: seatL caps most r.1 (r.2.1 + 1) (r.2.2 + x.f1) l) = ⟨x.f0, x.f1, m', a'⟩ :: seatL caps most a' (m' + 1) (ld' + x.f1) l := by
  simp only [h]
  rw [if_neg hne]
theorem seat_ends (most : Int) (x : S27) (caps : List Int) (a : Nat) (m ld a' m' ld' : Int) (he : a' = (caps.length : Int)) (l : List S27) (h : adv most x.f1 (caps.drop a) a m ld = (a', m', ld')) :
    (let r := adv most x.f1 (caps.drop a) a m ld
      if r.1 = (caps.length : Int) then [] else (⟨x.f0, x.f1, r.2.1, r.1⟩ : S60) :: seatL caps most r.1 (r.2.1 + 1) (r.2.2 + x.f1) l) = [] := by
  simp only [h]
  rw [if_pos he]
/-- What a round of the caller keeps: what lay below n₁, the three variables that the iterator has captured (blocks B on), and the iterator's own variables (type 27). -/
def Kp27 (n₁ B : Nat) (W W' : World) : Prop := Below n₁ W W' ∧ ∀ i o, W.heap[i]? = some o → ((B ≤ i ∧ i < B + 3) ∨ ∃ cs fr, o = .cells cs 27 fr) → W'.heap[i]? = some o
theorem Kp27.trans {n₁ B : Nat} {X Y Z : World} (h : Kp27 n₁ B X Y) (k : Kp27 n₁ B Y Z) : Kp27 n₁ B X Z := ⟨h.1.trans k.1, fun i o hi ho => k.2 i o (h.2 i o hi ho) ho⟩

/-- What a seat of the rule is like, where there are n stackers. -/
def GoodSeat (n : Nat) (x : S60) : Prop := 1 ≤ x.f1 ∧ x.f1 ≤ 10000 ∧ 0 ≤ x.f2 ∧ x.f2 < n ∧ 0 ≤ x.f3 ∧ x.f3 < n
def seatV (x : S60) : Array Value := #[.agg #[.int .i64 x.f0, .int .i64 x.f1, .int .i64 x.f2, .int .i64 x.f3]]

set_option maxRecDepth 100000 in
set_option maxHeartbeats 4000000 in
theorem seats_in (n : Nat) (hn : 1 ≤ n) (l B n₁ : Nat) (A0 : Option Addr) (c0 : Nat) (stops : List S27) (A1 : Option Addr) (c1 : Nat) (caps : List Int) (most : Int) (w : World) (J Jx : List S60 → World → Prop)
    (hr0 : Kd.C k27 w A0 stops.length stops) (hr1 : Kd.C (Kd.int .i64) w A1 caps.length caps) (hn₁ : n₁ = w.heap.size)
    (hvol : ∀ x ∈ stops, 1 ≤ x.f1 ∧ x.f1 ≤ 10000) (hcap : ∀ c ∈ caps, 1 ≤ c ∧ c ≤ 100000) (hs : stops.length ≤ 1000) (hc : caps.length ≤ 64) (hmo : 0 ≤ most) (hml : most ≤ caps.length)
    (W : World) (hJ : AbidesFrom W.heap.size J)
    (hY : ∀ pre x W1, GoodSeat caps.length x → J pre W1 → pre.length < stops.length → YieldAt Fence.wide (n - 1) Try.prog l (seatV x) W1 fun e W' =>
      (e = .returned (.bool true) ∧ J (pre ++ [x]) W' ∧ Kp27 n₁ B W1 W') ∨ (e = .returned (.bool false) ∧ Jx (pre ++ [x]) W'))
    (hb : Below n₁ w W) (hb0 : W.heap[B]? = some (.cells #[.slice A0 stops.length c0] 28 (0, 0))) (hb1 : W.heap[B + 1]? = some (.cells #[.slice A1 caps.length c1] 24 (0, 0))) (hb2 : W.heap[B + 2]? = some (.cells #[.int .i64 most] 3 (0, 0)))
    (h0 : J [] W) :
    CallsIn Fence.wide n Try.prog 51 #[.func (.yield l) #[] #[], .pointer (some ⟨B, 0, none⟩), .pointer (some ⟨B + 1, 0, none⟩), .pointer (some ⟨B + 2, 0, none⟩)] W fun e W' => (∃ v, e = .returned v) ∧
      ((∃ ys, ys = seatL caps most 0 0 0 stops ∧ J ys W') ∨ (∃ pre, True ∧ Jx pre W')) := by
  have hu27 := Try.underlying27
  have hu60 := Try.underlying60
  have HR0 := Aside0.mk hr0
  have HR1 := Aside0.mk hr1
  have HV := Aside0.mk hvol
  have HC := Aside0.mk hcap
  have HN := Aside0.mk hn₁
  have HJ := Aside0.mk hJ
  have HY := Aside0.mk hY
  have HB := Aside0.mk hb
  have H0 := Aside0.mk hb0
  have H1 := Aside0.mk hb1
  have H2 := Aside0.mk hb2
  have HJ0 := Aside0.mk h0
  have HQ := Aside0.mk hs
  have g0 : W.cell? ⟨B, 0, none⟩ = some (.slice A0 stops.length c0) := (blk_cell hb0 0).trans rfl
  clear hr0 hr1 hvol hcap hn₁ hJ hY hb hb0 hb1 hb2 h0
  refine callsIn_of_wp Try.func51 rfl trivial ?_ rfl
  simp only [Try.ntmps51, List.size_toArray, List.length_cons, List.length_nil, Nat.reduceAdd, Nat.reduceSub, Array.replicate_succ, Array.replicate_zero, List.push_toArray, List.append_toArray, List.nil_append, List.cons_append]
  gi_wp2
  gi_loopw [5, 6, 7, 12] (fun va vm vl vi wr => ∃ (k a : Nat) (m ld : Int) (pre : List S60), va = .int .i64 a ∧ vm = .int .i64 m ∧ vl = .int .i64 ld ∧ vi = .int .i64 k ∧ k ≤ stops.length ∧ a ≤ caps.length ∧ 0 ≤ m ∧ m ≤ k ∧ m ≤ most ∧ 0 ≤ ld ∧ ld ≤ 100000 ∧ Aside0 (pre.length = k ∧ seatL caps most 0 0 0 stops = pre ++ seatL caps most a m ld (stops.drop k) ∧ J pre wr ∧ Below n₁ w wr ∧
      wr.heap[B]? = some (.cells #[.slice A0 stops.length c0] 28 (0, 0)) ∧ wr.heap[B + 1]? = some (.cells #[.slice A1 caps.length c1] 24 (0, 0)) ∧ wr.heap[B + 2]? = some (.cells #[.int .i64 most] 3 (0, 0))))
    (fun _ _ _ vi _ => stops.length - (intOf vi).toNat)
  case atStart =>
    exact ⟨0, 0, 0, 0, [], rfl, rfl, rfl, rfl, Nat.zero_le _, Nat.zero_le _, by omega, by omega, by omega, by omega, by omega, ⟨rfl, rfl, HJ0.out, HB.out, H0.out, H1.out, H2.out⟩⟩
  case round =>
    obtain ⟨k, a, m, ld, pre, rfl, rfl, rfl, rfl, hk, ha, hm0, hm1, hm2, hl0, hl1, HI⟩ := hrel
    by_cases hlt : k < stops.length
    · obtain ⟨hpl, hsl, hj, hbw, hw0, hw1, hw2⟩ := HI.out
      have HJr := Aside0.mk hj
      have HBr := Aside0.mk hbw
      have HS := Aside0.mk hsl
      have HP := Aside0.mk hpl
      have K0 := Aside0.mk hw0
      have K1 := Aside0.mk hw1
      have K2 := Aside0.mk hw2
      clear hpl hsl hj hw0 hw1 hw2 HI
      have hbw' : Below w.heap.size w wr := by rw [← HN.out]; exact hbw
      obtain ⟨ad, rfl, hx0, hx1⟩ := at_T27 (Kd.C_below HR0.out hbw') (k : Int) (by omega) (by omega)
      simp only [Int.toNat_natCast] at hx0 hx1
      obtain ⟨x, hx⟩ : ∃ x, x = rd_T27 stops k := ⟨_, rfl⟩
      rw [← hx] at hx0 hx1
      have hvx := HV.out x (by rw [hx]; simp only [rd_T27, Int.toNat_natCast]; rw [List.getD_eq_getElem?_getD, List.getElem?_eq_getElem hlt]; exact List.getElem_mem hlt)
      obtain ⟨hv1, hv2⟩ := hvx
      have HD := Aside0.mk (HS.out.trans (congrArg (pre ++ ·) (seatL_drop caps most a m ld stops k hlt)))
      rw [← hx] at HD
      simp only [Int.toNat_natCast] at HD
      clear hx hbw' hbw
      gi_wp2
      have Q0 := Aside0.mk (blk_new wr (.cells #[.int .i64 x.f0, .int .i64 x.f1] 27))
      have Q1 := Aside0.mk (HJ.out pre wr _ none HJr.out (World.grownBy_alloc wr (.cells #[.int .i64 x.f0, .int .i64 x.f1] 27) none) (fun r e => by cases e))
      have Q2 := Aside0.mk (HBr.out.alloc (by rw [HN.out]; exact HBr.out.size) (.cells #[.int .i64 x.f0, .int .i64 x.f1] 27))
      have Q3 := Aside0.mk (blk_alloc K0.out (.cells #[.int .i64 x.f0, .int .i64 x.f1] 27))
      have Q4 := Aside0.mk (blk_alloc K1.out (.cells #[.int .i64 x.f0, .int .i64 x.f1] 27))
      have Q5 := Aside0.mk (blk_alloc K2.out (.cells #[.int .i64 x.f0, .int .i64 x.f1] 27))
      clear hx0 hx1 HJr HBr K0 K1 K2
      generalize wr.alloc (.cells #[.int .i64 x.f0, .int .i64 x.f1] 27) = W1 at Q0 Q1 Q2 Q3 Q4 Q5 ⊢
      generalize wr.heap.size = gx at Q0 ⊢
      gi_loopw [5, 6, 7] (fun va vm vl wi => ∃ (a' : Nat) (m' ld' : Int), va = .int .i64 a' ∧ vm = .int .i64 m' ∧ vl = .int .i64 ld' ∧ a' ≤ caps.length ∧ 0 ≤ m' ∧ m' ≤ k ∧ m' ≤ most ∧ 0 ≤ ld' ∧ ld' ≤ 100000 ∧ Aside0 (adv most x.f1 (caps.drop a) a m ld = adv most x.f1 (caps.drop a') a' m' ld' ∧ J pre wi ∧ Below n₁ w wi ∧
          wi.heap[B]? = some (.cells #[.slice (some ad) stops.length c0] 28 (0, 0)) ∧ wi.heap[B + 1]? = some (.cells #[.slice A1 caps.length c1] 24 (0, 0)) ∧ wi.heap[B + 2]? = some (.cells #[.int .i64 most] 3 (0, 0)) ∧ wi.heap[gx]? = some (.cells #[.int .i64 x.f0, .int .i64 x.f1] 27 (0, 0))))
        (fun va _ _ _ => caps.length - (intOf va).toNat)
      case atStart => exact ⟨a, m, ld, rfl, rfl, rfl, ha, hm0, hm1, hm2, hl0, hl1, ⟨rfl, Q1.out, Q2.out, Q3.out, Q4.out, Q5.out, Q0.out⟩⟩
      case round =>
        clear Q0 Q1 Q2 Q3 Q4 Q5 W1
        obtain ⟨a', m', ld', rfl, rfl, rfl, ha', hm0', hm1', hm2', hl0', hl1', HI⟩ := hrel
        obtain ⟨hadv, hj, hbw, hw0, hw1, hw2, hw3⟩ := HI.out
        have HJr := Aside0.mk hj
        have HBr := Aside0.mk hbw
        have HA := Aside0.mk hadv
        have K0 := Aside0.mk hw0
        have K1 := Aside0.mk hw1
        have K2 := Aside0.mk hw2
        have K3 := Aside0.mk hw3
        have p1 : wr.cell? ⟨B + 1, 0, none⟩ = some (.slice A1 caps.length c1) := (blk_cell hw1 0).trans rfl
        have p2 : wr.cell? ⟨B + 2, 0, none⟩ = some (.int .i64 most) := (blk_cell hw2 0).trans rfl
        have p3 : wr.cell? ⟨gx, 1, none⟩ = some (.int .i64 x.f1) := (blk_cell hw3 1).trans rfl
        have p4 : wr.cell? ⟨gx, 0, none⟩ = some (.int .i64 x.f0) := (blk_cell hw3 0).trans rfl
        clear hadv hj hw0 hw1 hw2 hw3 HI
        have hjd : ∀ (q : Nat) (W2 : World), W2 = wr.drewN q → J pre W2 := fun q W2 e => by subst e; exact HJ.out pre wr _ none HJr.out ⟨rfl, rfl, rfl, Nat.le_refl _, fun _ _ _ => rfl⟩ (fun r e => by cases e)
        have HJd := Aside0.mk hjd
        clear hjd
        by_cases hal : a' < caps.length
        · obtain ⟨ac, rfl, hcx⟩ := Kd.at_int (Kd.C_below HR1.out (by rw [← HN.out]; exact hbw)) (a' : Int) (by omega) (by omega)
          simp only [Int.toNat_natCast] at hcx
          have hcap := HC.out (rd caps a') (by simp only [rd, Int.toNat_natCast]; rw [List.getD_eq_getElem?_getD, List.getElem?_eq_getElem hal]; exact List.getElem_mem hal)
          have HAD := Aside0.mk (adv_drop most x.f1 caps a' hal m' ld')
          generalize rd caps (a' : Int) = ca at hcap hcx HAD
          obtain ⟨hc1, hc2⟩ := hcap
          clear hbw
          by_cases hmm : m' = most
          · have em : ((m' : Int) == most) = true := by simpa using hmm
            have HM := Aside0.mk hmm
            clear hmm
            gi_wp2
            gi_quiet (fail)
            gi_wp2
            go_roundw
            case rel => exact ⟨a' + 1, 0, 0, by go_num, rfl, rfl, by omega, by omega, by omega, by omega, by omega, by omega, ⟨(HA.out.trans HAD.out).trans (if_pos (by first | exact .inl HM.out | exact .inr HG.out)), HJd.out _ _ rfl, pw_below_drewN HBr.out _, K0.out, K1.out, K2.out, K3.out⟩⟩
            case measure => simp [intOf]; omega
          · have em : ((m' : Int) == most) = false := by simpa using hmm
            by_cases hgt : ld' + x.f1 > ca
            · have HG := Aside0.mk hgt
              gi_wp2
              gi_quiet (fail)
              gi_wp2
              go_roundw
              case rel => exact ⟨a' + 1, 0, 0, by go_num, rfl, rfl, by omega, by omega, by omega, by omega, by omega, by omega, ⟨(HA.out.trans HAD.out).trans (if_pos (by first | exact .inl HM.out | exact .inr HG.out)), HJd.out _ _ rfl, pw_below_drewN HBr.out _, K0.out, K1.out, K2.out, K3.out⟩⟩
              case measure => simp [intOf]; omega
            · have HE := Aside0.mk ((HA.out.trans HAD.out).trans (if_neg (fun h => h.elim hmm hgt)))
              have HX := Aside0.mk (HD.out.trans (congrArg (pre ++ ·) (seat_goes most x caps a m ld (a' : Int) m' ld' (by omega) (stops.drop (k + 1)) HE.out)))
              have e1 : ((a' : Int) == (caps.length : Int)) = false := by simp; omega
              gi_wp2
              gi_quiet (fail)
              obtain ⟨fn, tmps, assign, body, hy, hR⟩ := HY.out pre ⟨x.f0, x.f1, m', a'⟩ (wr.drewN nq) ⟨hv1, hv2, hm0', by simp only; omega, by simp only; omega, by simp only; omega⟩ (HJd.out nq _ rfl) (by have := HP.out; omega)
              have HRr := Aside0.mk hR
              simp only [seatV] at hy
              clear hR
              gi_wp2
              clear p1 p2 p3 p4 hcx
              refine HRr.out.mono ?_
              rintro e W3 (⟨rfl, hJ3, hk3⟩ | ⟨rfl, hJx3⟩)
              · have p3 : W3.cell? ⟨gx, 1, none⟩ = some (.int .i64 x.f1) := (blk_cell (hk3.2 gx _ K3.out (.inr ⟨_, _, rfl⟩)) 1).trans rfl
                have HJ3 := Aside0.mk hJ3
                have HK3 := Aside0.mk hk3
                clear hJ3 hk3 HRr hy
                gi_wp2
                gi_quiet (fail)
                gi_wp2
                go_roundw
                case rel => exact ⟨k + 1, a', m' + 1, ld' + x.f1, pre ++ [⟨x.f0, x.f1, m', a'⟩], rfl, rfl, rfl, by go_num, by omega, by omega, by omega, by omega, by omega, by omega, by omega, ⟨by have := HP.out; simp; omega, by rw [HX.out]; simp, HJ.out _ W3 _ none HJ3.out ⟨rfl, rfl, rfl, Nat.le_refl _, fun _ _ _ => rfl⟩ (fun r e => by cases e), pw_below_drewN ((pw_below_drewN HBr.out _).trans HK3.out.1) _, HK3.out.2 _ _ K0.out (.inl (by omega)), HK3.out.2 _ _ K1.out (.inl (by omega)), HK3.out.2 _ _ K2.out (.inl (by omega))⟩⟩
                case measure => simp [intOf]; omega
              · gi_wp2
                refine bodyPost_ret (results_none rfl _ _ _) rfl ?_
                exact ⟨⟨_, rfl⟩, .inr ⟨_, trivial, hJx3⟩⟩
        · have e1 : ((a' : Int) == (caps.length : Int)) = true := by simp; omega
          have HX := Aside0.mk (HD.out.trans (congrArg (pre ++ ·) (seat_ends most x caps a m ld (a' : Int) m' ld' (by omega) (stops.drop (k + 1)) (HA.out.trans (by rw [show a' = caps.length by omega, List.drop_length]; rfl)))))
          gi_wp2
          gi_quiet (fail)
          gi_wp2
          refine ⟨fun _ h => (by cases h), ?_⟩
          gi_wp2
          refine bodyPost_ret (results_none rfl _ _ _) rfl ?_
          exact ⟨⟨_, rfl⟩, .inl ⟨pre, by rw [HX.out]; simp, HJd.out _ _ rfl⟩⟩
    · gi_wp2
      go_end0
      refine ⟨⟨_, rfl⟩, .inl ⟨pre, ?_, HI.out.2.2.1⟩⟩
      rw [HI.out.2.1, show k = stops.length by omega, List.drop_length]
      simp [seatL]

/-- **The iterator yields the seats of the rule, one after the other, whatever the round does, so long as it keeps what the iterator reads.** -/
theorem seats_stops (n : Nat) (hn : 1 ≤ n) (B : Nat) (A0 : Option Addr) (c0 : Nat) (stops : List S27) (A1 : Option Addr) (c1 : Nat) (caps : List Int) (most : Int) (w w0 : World)
    (hr0 : Kd.C k27 w A0 stops.length stops) (hr1 : Kd.C (Kd.int .i64) w A1 caps.length caps)
    (hvol : ∀ x ∈ stops, 1 ≤ x.f1 ∧ x.f1 ≤ 10000) (hcap : ∀ c ∈ caps, 1 ≤ c ∧ c ≤ 100000) (hs : stops.length ≤ 1000) (hc : caps.length ≤ 64) (hmo : 0 ≤ most) (hml : most ≤ caps.length)
    (hb : Below w.heap.size w w0) (hb0 : w0.heap[B]? = some (.cells #[.slice A0 stops.length c0] 28 (0, 0))) (hb1 : w0.heap[B + 1]? = some (.cells #[.slice A1 caps.length c1] 24 (0, 0))) (hb2 : w0.heap[B + 2]? = some (.cells #[.int .i64 most] 3 (0, 0))) :
    SeqStopsK Fence.wide n Try.prog 51 #[.pointer (some ⟨B, 0, none⟩), .pointer (some ⟨B + 1, 0, none⟩), .pointer (some ⟨B + 2, 0, none⟩)] (fun x : {x : S60 // GoodSeat caps.length x} => seatV x.1) (Kp27 w.heap.size B)
      (fun ys => ys.map (·.1) = seatL caps most 0 0 0 stops) (fun _ => True) stops.length w0 := by
  intro l J Jx W hW hJ hJx hY h0
  have key := seats_in n hn l B w.heap.size A0 c0 stops A1 c1 caps most w (fun pre W => ∃ p : List {x : S60 // GoodSeat caps.length x}, p.map (·.1) = pre ∧ J p W) (fun pre W => ∃ p : List {x : S60 // GoodSeat caps.length x}, p.map (·.1) = pre ∧ Jx p W)
    hr0 hr1 rfl hvol hcap hs hc hmo hml W (fun s W1 W2 row ⟨p, hp, hj⟩ hg hr => ⟨p, hp, hJ p W1 W2 row hj hg hr⟩)
    (fun pre x W1 hx ⟨p, hp, hj⟩ hl => (hY p ⟨x, hx⟩ W1 hj (by rw [← hp, List.length_map] at hl; exact hl)).mono (fun e W2 h => by
      rcases h with ⟨he, hj2, hk⟩ | ⟨he, hj2⟩
      · exact .inl ⟨he, ⟨p ++ [⟨x, hx⟩], by simp [hp], hj2⟩, hk⟩
      · exact .inr ⟨he, ⟨p ++ [⟨x, hx⟩], by simp [hp], hj2⟩⟩))
    (below_then hb hb.size hW) (blk_below hb0 hW) (blk_below hb1 hW) (blk_below hb2 hW) ⟨[], rfl, h0⟩
  refine CallsIn.mono key ?_
  rintro e W2 ⟨hv, ⟨ys, hys, p, hp, hj⟩ | ⟨pre, _, p, hp, hj⟩⟩
  · exact ⟨hv, .inl ⟨p, hp.trans hys, hj⟩⟩
  · exact ⟨hv, .inr ⟨p, trivial, hj⟩⟩
end Go.Proofs.Ytbhcchcjmgfpiaa.Print
