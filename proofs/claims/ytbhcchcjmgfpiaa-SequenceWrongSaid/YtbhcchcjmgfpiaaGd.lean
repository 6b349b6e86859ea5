/- The contract of sequence.Make: an attempt at one limit, the search from a limit down, the whole. -/
import Derived.Test.YtbhcchcjmgfpiaaGd3a
import Derived.Test.YtbhcchcjmgfpiaaGd3b
/- One attempt of sequence.Make: the seats for a limit, and whether they suffice. By hand. -/
namespace Go.Proofs.Ytbhcchcjmgfpiaa.Print
open Go.RowKit Go.Shelf Go.Proofs.YtbhcchcjmgfpiaaW.PrintWords Go.Proofs.YtbhcchcjmgfpiaaW.PrintLast Go.Proofs.YtbhcchcjmgfpiaaW.PrintMore
attribute [local go_sem] max2_int min2_int max_two min_two max_three min_three max_four min_four
set_option linter.unusedVariables false
set_option linter.unusedSimpArgs false

def MakePost (w : World) (r : MakeR) : Ending → World → Prop := fun e w' => ∃ v0_ v1_ v2_ v3_ : Value, e = .returned (.tuple #[.agg #[v0_, v1_, v2_, v3_], .int .i64 r.2.2.2.2]) ∧ Kd.R (Kd.int .i64) 3 w' w.heap.size (fun k_ => some k_ ≠ (v2_ : Value).ownBlock ∧ some k_ ≠ (v3_ : Value).ownBlock) v0_ r.1 ∧ Kd.R k60 60 w' w.heap.size (fun _ => True) v1_ r.2.1 ∧ Kd.R (Kd.int .i64) 3 w' w.heap.size (fun k_ => some k_ ≠ (v0_ : Value).ownBlock ∧ some k_ ≠ (v3_ : Value).ownBlock) v2_ r.2.2.1 ∧ Kd.R (Kd.int .i64) 3 w' w.heap.size (fun k_ => some k_ ≠ (v0_ : Value).ownBlock ∧ some k_ ≠ (v2_ : Value).ownBlock) v3_ r.2.2.2.1 ∧ Below w.heap.size w w'

/-- A block of the code, by its number. -/
def findBlock (n : Nat) : Code → Option Code
  | .block id c => if id = n then some (.block id c) else findBlock n c
  | .seq a b => match findBlock n a with
    | some c => some c
    | none => findBlock n b
  | .cond _ a b => match findBlock n a with
    | some c => some c
    | none => findBlock n b
  | .loop c => findBlock n c
  | .scope c => findBlock n c
  | _ => none

/-- What holds of the marks. -/
def MarksAt (w : World) (Ds : List Nat) (W : World) : Prop := Ds.Nodup ∧ ∀ D ∈ Ds, w.heap.size ≤ D ∧ W.heap[D]? = some (.deferred (some []))
/-- What holds at the end with the result r. -/
def EndAt (w : World) (gb : Nat) (r : MakeR) (W : World) : Prop := ∃ v0_ v1_ v2_ v3_ : Value, W.heap[gb]? = some (.cells #[v0_, v1_, v2_, v3_] 38 (0, 0)) ∧ Kd.R (Kd.int .i64) 3 W w.heap.size (fun k_ => some k_ ≠ (v2_ : Value).ownBlock ∧ some k_ ≠ (v3_ : Value).ownBlock) v0_ r.1 ∧ Kd.R k60 60 W w.heap.size (fun _ => True) v1_ r.2.1 ∧ Kd.R (Kd.int .i64) 3 W w.heap.size (fun k_ => some k_ ≠ (v0_ : Value).ownBlock ∧ some k_ ≠ (v3_ : Value).ownBlock) v2_ r.2.2.1 ∧ Kd.R (Kd.int .i64) 3 W w.heap.size (fun k_ => some k_ ≠ (v0_ : Value).ownBlock ∧ some k_ ≠ (v2_ : Value).ownBlock) v3_ r.2.2.2.1 ∧ Below w.heap.size w W

theorem set4 {w W3 : World} {gb : Nat} {x0 x1 x2 x3 : Value} (hG : W3.heap[gb]? = some (.cells #[.slice none 0 0, .slice none 0 0, .slice none 0 0, .slice none 0 0] 38 (0, 0))) (hgb : w.heap.size ≤ gb) (hB : Below w.heap.size w W3) :
    ((((W3.setCell ⟨gb, 0, none⟩ x0).setCell ⟨gb, 1, none⟩ x1).setCell ⟨gb, 2, none⟩ x2).setCell ⟨gb, 3, none⟩ x3).heap[gb]? = some (.cells #[x0, x1, x2, x3] 38 (0, 0)) ∧
    (∀ (i : Nat) (o : Obj), W3.heap[i]? = some o → i ≠ gb → ((((W3.setCell ⟨gb, 0, none⟩ x0).setCell ⟨gb, 1, none⟩ x1).setCell ⟨gb, 2, none⟩ x2).setCell ⟨gb, 3, none⟩ x3).heap[i]? = some o) ∧
    Below w.heap.size w ((((W3.setCell ⟨gb, 0, none⟩ x0).setCell ⟨gb, 1, none⟩ x1).setCell ⟨gb, 2, none⟩ x2).setCell ⟨gb, 3, none⟩ x3) :=
  ⟨blk_put (cs := #[x0, x1, x2, .slice none 0 0]) (blk_put (cs := #[x0, x1, .slice none 0 0, .slice none 0 0]) (blk_put (cs := #[x0, .slice none 0 0, .slice none 0 0, .slice none 0 0]) (blk_put hG 0 _ rfl) 1 _ rfl) 2 _ rfl) 3 _ rfl,
   fun i o h hne => (Below.heap_setCell _ ⟨gb, 3, none⟩ _ i hne).trans ((Below.heap_setCell _ ⟨gb, 2, none⟩ _ i hne).trans ((Below.heap_setCell _ ⟨gb, 1, none⟩ _ i hne).trans ((Below.heap_setCell _ ⟨gb, 0, none⟩ _ i hne).trans h))),
   (((hB.setCell (p := ⟨gb, 0, none⟩) hgb _).setCell (p := ⟨gb, 1, none⟩) hgb _).setCell (p := ⟨gb, 2, none⟩) hgb _).setCell (p := ⟨gb, 3, none⟩) hgb _⟩
theorem R_key {α : Type} {d : Kd α} {e : Nat} {W3 W4 : World} {base gb : Nat} {ok : Nat → Prop} {v : Value} {xs : List α} {cs : Array Value} (h : d.R e W3 base ok v xs) (hG : W3.heap[gb]? = some (.cells cs 38 (0, 0))) (ht : ∀ q, q ∈ e :: d.E → q ≠ 38)
    (key : ∀ (i : Nat) (o : Obj), W3.heap[i]? = some o → i ≠ gb → W4.heap[i]? = some o) : d.R e W4 base ok v xs :=
  Kd.R_mono (Kd.R_step (w1 := W4) (Kd.R_types h hG ht) (fun k hk hlt => by
    have h1 : W3.heap[k]? = some W3.heap[k] := Array.getElem?_eq_getElem hlt
    rw [h1]
    exact key k _ h1 hk.2)) (fun _ hk => hk.1)

set_option maxHeartbeats 8000000 in
set_option maxRecDepth 100000 in
theorem make_attempt (c : Code) (hcode : (Try.f16.body.bind (findBlock 1)) = some c) (u2 u3 u5 u7 u8 u9 u10 u11 u12 u13 u14 u15 u16 u17 u18 u19 u20 u21 u22 u23 u24 u25 u26 u27 u28 u29 u30 u31 u32 u33 u34 u35 u36 u37 u38 u39 u40 u41 u42 u43 u44 u45 u46 u47 u48 u49 u50 u51 u52 u53 u54 u55 u56 u57 u58 u59 u60 u61 u62 u63 u64 u65 u66 u67 u68 u69 u70 u71 u72 u73 u74 u75 u76 u77 u78 u79 u80 u81 u82 u83 u84 u85 u86 u87 u88 : Value) (Q : Exit → Act → World → Prop) (A0 : Option Addr) (c0 : Nat) (l0 : List (S27)) (A1 : Option Addr) (c1 : Nat) (l1 : List Int) (w W : World) (gb k : Nat) (Ds : List Nat)
    (hr0 : Kd.C k27 w A0 l0.length l0) (hr1 : Kd.C (Kd.int .i64) w A1 l1.length l1) (hc1 : l1.length ≤ c1) (hm1 : 0 < l1.length) (hm2 : l1.length ≤ 64) (hm3 : ∀ c ∈ l1, 1 ≤ c ∧ c ≤ 100000) (hs0 : ∀ x ∈ l0, 1 ≤ x.f1 ∧ x.f1 ≤ 10000)
    (h5 : l0.length ≤ 1000) (hk : k ≤ l1.length) (hb : Below w.heap.size w W) (hbk : W.heap[gb]? = some (.cells #[.slice none 0 0, .slice none 0 0, .slice none 0 0, .slice none 0 0] 38 (0, 0))) (hgb : w.heap.size ≤ gb) (hds : MarksAt w Ds W)
    (hret : ∀ (x2 x3 x6 x7 x8 x9 x10 x11 x12 x13 x14 x15 x16 x17 x18 x19 x20 x21 x22 x23 x24 x25 x26 x27 x28 x29 x30 x31 x32 x33 x34 x35 x36 x37 x38 x39 x40 x41 x42 x43 x44 x45 x46 x47 x48 x49 x50 x51 x52 x53 x54 x55 x56 x57 x58 x59 x60 x61 x62 x63 x64 x65 x66 x67 x68 x69 x70 x71 x72 x73 x74 x75 x76 x77 x78 x79 x80 x81 x82 x83 x84 x85 x86 x87 x88 : Value) (Ds' : List Nat) (W' : World), planOk l0 l1 k = true → MarksAt w Ds' W' → EndAt w gb (l1, seatL l1 k 0 0 0 l0, loadsF l1.length (seatL l1 k 0 0 0 l0), loadsS l1.length (seatL l1 k 0 0 0 l0), 0) W' →
      Q .ret { tmps := #[.slice A0 l0.length c0, .slice A1 l1.length c1, x2, x3, .pointer (some ⟨gb, 0, none⟩), .int .i64 0, x6, x7, x8, x9, x10, x11, x12, x13, x14, x15, x16, x17, x18, x19, x20, x21, x22, x23, x24, x25, x26, x27, x28, x29, x30, x31, x32, x33, x34, x35, x36, x37, x38, x39, x40, x41, x42, x43, x44, x45, x46, x47, x48, x49, x50, x51, x52, x53, x54, x55, x56, x57, x58, x59, x60, x61, x62, x63, x64, x65, x66, x67, x68, x69, x70, x71, x72, x73, x74, x75, x76, x77, x78, x79, x80, x81, x82, x83, x84, x85, x86, x87, x88], defers := Ds'.map mark } W')
    (hnext : ∀ (x2 x3 x5 x7 x8 x9 x10 x11 x12 x13 x14 x15 x16 x17 x18 x19 x20 x21 x22 x23 x24 x25 x26 x27 x28 x29 x30 x31 x32 x33 x34 x35 x36 x37 x38 x39 x40 x41 x42 x43 x44 x45 x46 x47 x48 x49 x50 x51 x52 x53 x54 x55 x56 x57 x58 x59 x60 x61 x62 x63 x64 x65 x66 x67 x68 x69 x70 x71 x72 x73 x74 x75 x76 x77 x78 x79 x80 x81 x82 x83 x84 x85 x86 x87 x88 : Value) (Ds' : List Nat) (W' : World), planOk l0 l1 k = false → MarksAt w Ds' W' → W'.heap[gb]? = some (.cells #[.slice none 0 0, .slice none 0 0, .slice none 0 0, .slice none 0 0] 38 (0, 0)) → Below w.heap.size w W' →
      Q .normal { tmps := #[.slice A0 l0.length c0, .slice A1 l1.length c1, x2, x3, .pointer (some ⟨gb, 0, none⟩), x5, .int .i64 (k : Int), x7, x8, x9, x10, x11, x12, x13, x14, x15, x16, x17, x18, x19, x20, x21, x22, x23, x24, x25, x26, x27, x28, x29, x30, x31, x32, x33, x34, x35, x36, x37, x38, x39, x40, x41, x42, x43, x44, x45, x46, x47, x48, x49, x50, x51, x52, x53, x54, x55, x56, x57, x58, x59, x60, x61, x62, x63, x64, x65, x66, x67, x68, x69, x70, x71, x72, x73, x74, x75, x76, x77, x78, x79, x80, x81, x82, x83, x84, x85, x86, x87, x88], defers := Ds'.map mark } W') :
    c.wp Try.prog Q { tmps := #[.slice A0 l0.length c0, .slice A1 l1.length c1, u2, u3, .pointer (some ⟨gb, 0, none⟩), u5, .int .i64 (k : Int), u7, u8, u9, u10, u11, u12, u13, u14, u15, u16, u17, u18, u19, u20, u21, u22, u23, u24, u25, u26, u27, u28, u29, u30, u31, u32, u33, u34, u35, u36, u37, u38, u39, u40, u41, u42, u43, u44, u45, u46, u47, u48, u49, u50, u51, u52, u53, u54, u55, u56, u57, u58, u59, u60, u61, u62, u63, u64, u65, u66, u67, u68, u69, u70, u71, u72, u73, u74, u75, u76, u77, u78, u79, u80, u81, u82, u83, u84, u85, u86, u87, u88], defers := Ds.map mark } W := by
  obtain rfl := Option.some.inj ((show (Try.f16.body.bind (findBlock 1)) = some _ from rfl).symm.trans hcode)
  clear hcode
  have hu38 := Try.underlying38
  have HR0 := Aside0.mk hr0
  have HR1 := Aside0.mk hr1
  have HRT := Aside0.mk hret
  have HNX := Aside0.mk hnext
  have HM3 := Aside0.mk hm3
  have HS0 := Aside0.mk hs0
  have HDS := Aside0.mk hds
  have HB := Aside0.mk hb
  have BK := Aside0.mk hbk
  clear hr0 hr1 hret hnext hm3 hs0 hds hb hbk
  go_wp2
  refine make10.wp (hcode := by rfl) (u7 := u7) (u35 := u35) (u36 := u36) (u37 := u37) (u38 := u38) (u39 := u39) (u40 := u40) (u41 := u41) (u42 := u42) (u43 := u43) (w := W) (wr := W) (A1 := A1) (c1 := c1) (l1 := l1) (gb153 := gb) (hr1 := Kd.C_below HR1.out HB.out) (hc1 := hc1) (hl1 := hm2) (hbk := BK.out) (hb := Below.refl _ _) (hQ := ?_)
  intro A36 c36 A39 c39 A42 c42 g7 W1 R36 R39 R42 BK1 P1 hg7 hne7 HB1
  obtain ⟨g3, c3, e3, hg3, hl3, _⟩ := Kd.R_form R39 (by simp; omega)
  obtain ⟨g4, c4, e4, hg4, hl4, _⟩ := Kd.R_form R42 (by simp; omega)
  rw [List.length_replicate] at e3 e4
  injection e3 with ea en ec
  subst ea ec
  injection e4 with ea en ec
  subst ea ec
  have O39 := Kd.own_of_R R39
  have O42 := Kd.own_of_R R42
  rw [List.length_replicate] at O39 O42
  have n34 : g3 ≠ g4 := fun e => (R39.1 g3 rfl).2 (by rw [e]; rfl)
  have OK3 := Aside0.mk (R39.1 g3 rfl).1
  have OK4 := Aside0.mk (R42.1 g4 rfl).1
  have R1 := Aside0.mk R36
  have O3 := Aside0.mk O39
  have O4 := Aside0.mk O42
  have PL := Aside0.mk P1
  have BK1' := Aside0.mk BK1
  have HB2 := Aside0.mk (below_step HB.out HB1)
  have HBW := Aside0.mk HB1
  have hsz := HB.out.size
  have hszW := HB1.size
  have hgpl := blk_lt P1
  have hgbl := blk_lt BK.out
  clear R36 R39 R42 O39 O42 P1 BK1 HB1 en
  go_wp2_with (first | ((with_reducible refine gate_callee (f := 39) rfl ?_); refine goesL_ (some 47) rfl rfl Try.func39 (by kernel_rfl) rfl #[.slice A0 l0.length c0, .slice A1 l1.length c1, .int .i64 (k : Int)] rfl (by (try simp only [List.map_toArray, List.map_cons, List.map_nil]); first | done | rfl) ?_; refine (seats39 _ _ _ _ _ _ _ _).mono ?_; rintro e W0 ⟨rfl, hB0, hS0, b0, b1, b2⟩; refine ⟨_, rfl, ?_⟩; have HB0 := Aside0.mk hB0; have B0 := Aside0.mk b0; have B1 := Aside0.mk b1; have B2 := Aside0.mk b2; clear hB0 b0 b1 b2))
  refine loop16 _ (by rfl) (w := w) (W0 := W0) (gp := g7) (g3 := g3) (g4 := g4) (N := l1.length) (c3 := c39) (c4 := c42) (B := W1.heap.size) (v36 := .slice A36 l1.length c36) (S := fun l => l = seatL l1 k 0 0 0 l0) (k := l0.length)
    (hseq := seats_stops 8 (by omega) W1.heap.size A0 c0 l0 A1 c1 l1 k w W0 HR0.out HR1.out HS0.out HM3.out h5 hm2 (by omega) (by omega) (below_step HB2.out HB0.out) B0.out B1.out B2.out)
    (hk := h5) (hN := hm2) (hw := by omega) (hB := by omega) (hBw := by omega) (hgp := by omega) (hg3 := by omega) (hg4 := by omega) (hgpB := by omega) (hg3B := by omega) (hg4B := by omega) (h34 := n34)
    (h0 := ?h0) (hdone := ?hdone)
  case h0 =>
    refine ⟨.slice none 0 0, blk_below PL.out HB0.out, own_nil _ _ _ _, ?_, ?_, below_step HB2.out HB0.out, Nat.le_refl _, fun i o h _ _ _ => h⟩
    · exact pw_own_below (own_weaken O3.out hsz) HB0.out
    · exact pw_own_below (own_weaken O4.out hsz) HB0.out
  case hdone =>
    intro D l W2 hD hS hgood hLoop hmark
    obtain ⟨vs, hp, hs, h3, h4, hb, hz, hkk⟩ := hLoop
    obtain ⟨A, cS, rfl⟩ := own_slice hs
    have hlF : (loadsF l1.length l).length = l1.length := by have := h3.1; simp [nums] at this; exact this
    have hlS : (loadsS l1.length l).length = l1.length := by have := h4.1; simp [nums] at this; exact this
    have hp0 : W0.heap[g7]? = some (.cells #[.slice A36 l1.length c36, .slice none 0 0, .slice (some ⟨g3, 0, none⟩) l1.length c39, .slice (some ⟨g4, 0, none⟩) l1.length c42] 38 (0, 0)) := blk_below PL.out HB0.out
    have hgb2 : W2.heap[gb]? = some (.cells #[.slice none 0 0, .slice none 0 0, .slice none 0 0, .slice none 0 0] 38 (0, 0)) := hkk gb _ (blk_below BK1'.out HB0.out) hne7 (by omega) (by omega)
    have hMarks : MarksAt w (D :: Ds) W2 := by
      obtain ⟨hn, ha⟩ := HDS.out
      refine ⟨List.nodup_cons.2 ⟨fun hm => ?_, hn⟩, fun D' hD' => ?_⟩
      · have := blk_lt (ha D hm).2
        omega
      · rcases List.mem_cons.1 hD' with rfl | hm
        · exact ⟨by omega, hmark⟩
        · have hlt := blk_lt (ha D' hm).2
          exact ⟨(ha D' hm).1, hkk D' _ (blk_below (blk_below (ha D' hm).2 HBW.out) HB0.out) (by omega) (by omega) (by omega)⟩
    have hgbD : gb ∉ D :: Ds := fun hm => by
      have := (hMarks.2 gb hm).2
      rw [hgb2] at this
      cases this
    have r36 := Kd.R_step (w1 := W2) (Kd.R_types (Kd.R_below R1.out HB0.out) hp0 (by decide)) (fun k hk hlt => by
      have h1 : W0.heap[k]? = some W0.heap[k] := Array.getElem?_eq_getElem hlt
      rw [h1]
      exact hkk k _ h1 hk.2 (fun e => hk.1.1 (by rw [e]; rfl)) (fun e => hk.1.2 (by rw [e]; rfl)))
    have R36 := Aside0.mk (Kd.R_lower (Kd.R_mono r36 (fun k hk => hk.1)) hsz)
    have R39 := Aside0.mk (Kd.R_of_own (h1 := fun _ => rfl) (enc := Value.int .i64) (ok := fun k_ => some k_ ≠ (Value.slice A36 l1.length c36).ownBlock ∧ some k_ ≠ (Value.slice (some ⟨g4, 0, none⟩) l1.length c42).ownBlock) (xs := loadsF l1.length l) (by rw [hlF]; exact h3) (fun k hk => by cases hk; exact ⟨OK3.out, fun e => n34 (by simpa [Value.ownBlock] using e)⟩))
    have R42 := Aside0.mk (Kd.R_of_own (h1 := fun _ => rfl) (enc := Value.int .i64) (ok := fun k_ => some k_ ≠ (Value.slice A36 l1.length c36).ownBlock ∧ some k_ ≠ (Value.slice (some ⟨g3, 0, none⟩) l1.length c39).ownBlock) (xs := loadsS l1.length l) (by rw [hlS]; exact h4) (fun k hk => by cases hk; exact ⟨OK4.out, fun e => n34 (by simpa [Value.ownBlock] using e.symm)⟩))
    have R60 := Aside0.mk (R60_of_own (own_weaken hs (show w.heap.size ≤ W0.heap.size by omega)))
    have hpl : planOk l0 l1 k = (decide (l.length = l0.length) && withinL (loadsF l1.length l) l1) := by unfold planOk; rw [← hS]
    have HRT' := HRT.out
    rw [← hS] at HRT'
    have HRL := Aside0.mk HRT'
    have HBW2 := Aside0.mk hb
    have P2 := Aside0.mk hp
    have G2 := Aside0.mk hgb2
    have MK := Aside0.mk hMarks
    have p1 : W2.cell? ⟨g7, 1, none⟩ = some (.slice A l.length cS) := (blk_cell hp 1).trans rfl
    have p2 : W2.cell? ⟨g7, 2, none⟩ = some (.slice (some ⟨g3, 0, none⟩) l1.length c39) := (blk_cell hp 2).trans rfl
    have HCALL := Aside0.mk (show Calls Try.prog 40 #[.slice (some ⟨g3, 0, none⟩) l1.length c39, .slice A1 l1.length c1] W2 (fun e w' => e = .returned (.bool (withinL (loadsF l1.length l) l1)) ∧ Drawn0 W2 w') from by
      have h := sequence_within.calls ((loadsF l1.length l).length + 1) (some ⟨g3, 0, none⟩) c39 (loadsF l1.length l) A1 c1 l1 _ W2 (by have := (Kd.R_reads' R39.out).2.2; exact this) (by rw [hlF]; exact own_le h3) (Kd.C_below HR1.out hb) hc1 (within_f _ _ hlF (by omega))
      rw [hlF] at h
      exact h)
    clear hp hs h3 h4 hb hz hkk r36 HRT HRT' hMarks hgb2 hp0 hgbD
    have HPL := Aside0.mk hpl
    have HSL := Aside0.mk hS
    clear hpl hS
    by_cases hfl : l.length = l0.length
    · have hfb : ((l.length : Int) == (l0.length : Int)) = true := by rw [hfl]; exact beq_self_eq_true _
      cases hwv : withinL (loadsF l1.length l) l1 with
      | true =>
        rw [hwv] at HCALL
        go_wp2_with (first | ((with_reducible refine gate_callee (f := 40) rfl ?_); refine gate_guard (by first | rfl | go_simp) ?_; dsimp only; refine goesL_ (some 85) rfl rfl Try.func40 (by kernel_rfl) rfl #[.slice (some ⟨g3, 0, none⟩) l1.length c39, .slice A1 l1.length c1] rfl (by (try simp only [List.map_toArray, List.map_cons, List.map_nil]); first | done | rfl) ?_; refine HCALL.out.mono ?_; rintro e w' ⟨rfl, ⟨nd, rfl⟩⟩; refine ⟨_, rfl, ?_⟩; have P3 := Aside0.mk (blk_drewN P2.out nd); have G3 := Aside0.mk (blk_drewN G2.out nd); have S36 := Aside0.mk (Kd.R_drewN R36.out nd); have S39 := Aside0.mk (Kd.R_drewN R39.out nd); have S42 := Aside0.mk (Kd.R_drewN R42.out nd); have S60 := Aside0.mk (Kd.R_drewN R60.out nd); have B3 := Aside0.mk (pw_below_drewN HBW2.out nd); have MK3 := Aside0.mk (show MarksAt w (D :: Ds) (W2.drewN nd) from MK.out); generalize W2.drewN nd = W3 at P3 G3 S36 S39 S42 S60 B3 MK3 ⊢; have x0 : W3.cell? ⟨g7, 0, none⟩ = some (.slice A36 l1.length c36) := (blk_cell P3.out 0).trans rfl; have y0 : W3.cell? ⟨gb, 0, none⟩ = some (.slice none 0 0) := (blk_cell G3.out 0).trans rfl; have z0 := blk_frozen G3.out 0; have x1 : W3.cell? ⟨g7, 1, none⟩ = some (.slice A l.length cS) := (blk_cell P3.out 1).trans rfl; have y1 : W3.cell? ⟨gb, 1, none⟩ = some (.slice none 0 0) := (blk_cell G3.out 1).trans rfl; have z1 := blk_frozen G3.out 1; have x2 : W3.cell? ⟨g7, 2, none⟩ = some (.slice (some ⟨g3, 0, none⟩) l1.length c39) := (blk_cell P3.out 2).trans rfl; have y2 : W3.cell? ⟨gb, 2, none⟩ = some (.slice none 0 0) := (blk_cell G3.out 2).trans rfl; have z2 := blk_frozen G3.out 2; have x3 : W3.cell? ⟨g7, 3, none⟩ = some (.slice (some ⟨g4, 0, none⟩) l1.length c42) := (blk_cell P3.out 3).trans rfl; have y3 : W3.cell? ⟨gb, 3, none⟩ = some (.slice none 0 0) := (blk_cell G3.out 3).trans rfl; have z3 := blk_frozen G3.out 3))
        go_wp2
        have S60' := S60.out
        rw [hfl] at S60'
        have h4 := set4 (w := w) (W3 := W3) (gb := gb) (x0 := .slice A36 l1.length c36) (x1 := .slice A l0.length cS) (x2 := .slice (some ⟨g3, 0, none⟩) l1.length c39) (x3 := .slice (some ⟨g4, 0, none⟩) l1.length c42) G3.out hgb B3.out
        obtain ⟨W4, hW4⟩ : ∃ W4, W4 = (((W3.setCell ⟨gb, 0, none⟩ (.slice A36 l1.length c36)).setCell ⟨gb, 1, none⟩ (.slice A l0.length cS)).setCell ⟨gb, 2, none⟩ (.slice (some ⟨g3, 0, none⟩) l1.length c39)).setCell ⟨gb, 3, none⟩ (.slice (some ⟨g4, 0, none⟩) l1.length c42) := ⟨_, rfl⟩
        rw [← hW4] at h4
        obtain ⟨hg4', key, hb4⟩ := h4
        have hM4 : MarksAt w (D :: Ds) W4 := ⟨MK3.out.1, fun D' hD' => ⟨(MK3.out.2 D' hD').1, key D' _ (MK3.out.2 D' hD').2 (fun e => by
          subst e
          have h1_ := (MK3.out.2 _ hD').2
          rw [G3.out] at h1_
          cases h1_)⟩⟩
        have hE4 : EndAt w gb (l1, l, loadsF l1.length l, loadsS l1.length l, 0) W4 := ⟨.slice A36 l1.length c36, .slice A l0.length cS, .slice (some ⟨g3, 0, none⟩) l1.length c39, .slice (some ⟨g4, 0, none⟩) l1.length c42, hg4', R_key S36.out G3.out (by decide) key, R_key S60' G3.out (by decide) key, R_key S39.out G3.out (by decide) key, R_key S42.out G3.out (by decide) key, hb4⟩
        have hP4 : planOk l0 l1 k = true := by
          rw [HPL.out, hwv, decide_eq_true hfl]
          rfl
        subst hW4
        exact HRL.out _ _ _ _ _ _ _ _ _ _ _ _ _ _ _ _ _ _ _ _ _ _ _ _ _ _ _ _ _ _ _ _ _ _ _ _ _ _ _ _ _ _ _ _ _ _ _ _ _ _ _ _ _ _ _ _ _ _ _ _ _ _ _ _ _ _ _ _ _ _ _ _ _ _ _ _ _ _ _ _ _ _ _ _ _ (D :: Ds) _ hP4 hM4 hE4
      | false =>
        rw [hwv] at HCALL
        go_wp2_with (first | ((with_reducible refine gate_callee (f := 40) rfl ?_); refine gate_guard (by first | rfl | go_simp) ?_; dsimp only; refine goesL_ (some 85) rfl rfl Try.func40 (by kernel_rfl) rfl #[.slice (some ⟨g3, 0, none⟩) l1.length c39, .slice A1 l1.length c1] rfl (by (try simp only [List.map_toArray, List.map_cons, List.map_nil]); first | done | rfl) ?_; refine HCALL.out.mono ?_; rintro e w' ⟨rfl, ⟨nd, rfl⟩⟩; refine ⟨_, rfl, ?_⟩; have P3 := Aside0.mk (blk_drewN P2.out nd); have G3 := Aside0.mk (blk_drewN G2.out nd); have S36 := Aside0.mk (Kd.R_drewN R36.out nd); have S39 := Aside0.mk (Kd.R_drewN R39.out nd); have S42 := Aside0.mk (Kd.R_drewN R42.out nd); have S60 := Aside0.mk (Kd.R_drewN R60.out nd); have B3 := Aside0.mk (pw_below_drewN HBW2.out nd); have MK3 := Aside0.mk (show MarksAt w (D :: Ds) (W2.drewN nd) from MK.out); generalize W2.drewN nd = W3 at P3 G3 S36 S39 S42 S60 B3 MK3 ⊢; have x0 : W3.cell? ⟨g7, 0, none⟩ = some (.slice A36 l1.length c36) := (blk_cell P3.out 0).trans rfl; have y0 : W3.cell? ⟨gb, 0, none⟩ = some (.slice none 0 0) := (blk_cell G3.out 0).trans rfl; have z0 := blk_frozen G3.out 0; have x1 : W3.cell? ⟨g7, 1, none⟩ = some (.slice A l.length cS) := (blk_cell P3.out 1).trans rfl; have y1 : W3.cell? ⟨gb, 1, none⟩ = some (.slice none 0 0) := (blk_cell G3.out 1).trans rfl; have z1 := blk_frozen G3.out 1; have x2 : W3.cell? ⟨g7, 2, none⟩ = some (.slice (some ⟨g3, 0, none⟩) l1.length c39) := (blk_cell P3.out 2).trans rfl; have y2 : W3.cell? ⟨gb, 2, none⟩ = some (.slice none 0 0) := (blk_cell G3.out 2).trans rfl; have z2 := blk_frozen G3.out 2; have x3 : W3.cell? ⟨g7, 3, none⟩ = some (.slice (some ⟨g4, 0, none⟩) l1.length c42) := (blk_cell P3.out 3).trans rfl; have y3 : W3.cell? ⟨gb, 3, none⟩ = some (.slice none 0 0) := (blk_cell G3.out 3).trans rfl; have z3 := blk_frozen G3.out 3))
        refine HNX.out _ _ _ _ _ _ _ _ _ _ _ _ _ _ _ _ _ _ _ _ _ _ _ _ _ _ _ _ _ _ _ _ _ _ _ _ _ _ _ _ _ _ _ _ _ _ _ _ _ _ _ _ _ _ _ _ _ _ _ _ _ _ _ _ _ _ _ _ _ _ _ _ _ _ _ _ _ _ _ _ _ _ _ _ _ (D :: Ds) _ ?_ MK3.out G3.out B3.out
        rw [HPL.out, hwv, Bool.and_false]
    · have hfb : ((l.length : Int) == (l0.length : Int)) = false := beq_eq_false_iff_ne.mpr (by omega)
      go_wp2
      refine HNX.out _ _ _ _ _ _ _ _ _ _ _ _ _ _ _ _ _ _ _ _ _ _ _ _ _ _ _ _ _ _ _ _ _ _ _ _ _ _ _ _ _ _ _ _ _ _ _ _ _ _ _ _ _ _ _ _ _ _ _ _ _ _ _ _ _ _ _ _ _ _ _ _ _ _ _ _ _ _ _ _ _ _ _ _ _ (D :: Ds) _ ?_ MK.out G2.out HBW2.out
      rw [HPL.out, decide_eq_false hfl, Bool.false_and]
end Go.Proofs.Ytbhcchcjmgfpiaa.Print

/- The search of sequence.Make, from a limit down. By hand. -/
namespace Go.Proofs.Ytbhcchcjmgfpiaa.Print
open Go.RowKit Go.Shelf Go.Proofs.YtbhcchcjmgfpiaaW.PrintWords Go.Proofs.YtbhcchcjmgfpiaaW.PrintLast Go.Proofs.YtbhcchcjmgfpiaaW.PrintMore
attribute [local go_sem] max2_int min2_int max_two min_two max_three min_three max_four min_four
set_option linter.unusedVariables false
set_option linter.unusedSimpArgs false


def mu6 (a : Act) : Nat := match a.tmps[6]? with
  | some (Value.int _ i) => i.toNat
  | _ => 0
theorem list_map_range {α : Type} (z : α) : ∀ (l : List α), l = (List.range l.length).map (fun i => l.getD i z) := by
  intro l
  apply List.ext_getElem?
  intro i
  rw [List.getElem?_map]
  rcases Nat.lt_or_ge i l.length with h | h
  · rw [List.getElem?_range h, List.getElem?_eq_getElem h]
    simp [List.getD_eq_getElem?_getD, List.getElem?_eq_getElem h]
  · rw [List.getElem?_eq_none h, List.getElem?_eq_none (by simpa using h)]
    rfl
theorem range89 (g : Nat → Value) : (List.range 89).map g = [g 0, g 1, g 2, g 3, g 4, g 5, g 6, g 7, g 8, g 9, g 10, g 11, g 12, g 13, g 14, g 15, g 16, g 17, g 18, g 19, g 20, g 21, g 22, g 23, g 24, g 25, g 26, g 27, g 28, g 29, g 30, g 31, g 32, g 33, g 34, g 35, g 36, g 37, g 38, g 39, g 40, g 41, g 42, g 43, g 44, g 45, g 46, g 47, g 48, g 49, g 50, g 51, g 52, g 53, g 54, g 55, g 56, g 57, g 58, g 59, g 60, g 61, g 62, g 63, g 64, g 65, g 66, g 67, g 68, g 69, g 70, g 71, g 72, g 73, g 74, g 75, g 76, g 77, g 78, g 79, g 80, g 81, g 82, g 83, g 84, g 85, g 86, g 87, g 88] := rfl
theorem frame89 (t : Array Value) (hz : t.size = 89) {a b c d : Value} (h0 : t[0]? = some a) (h1 : t[1]? = some b) (h4 : t[4]? = some c) (h6 : t[6]? = some d) : ∃ f : Nat → Value, t = #[a, b, f 2, f 3, c, f 5, d, f 7, f 8, f 9, f 10, f 11, f 12, f 13, f 14, f 15, f 16, f 17, f 18, f 19, f 20, f 21, f 22, f 23, f 24, f 25, f 26, f 27, f 28, f 29, f 30, f 31, f 32, f 33, f 34, f 35, f 36, f 37, f 38, f 39, f 40, f 41, f 42, f 43, f 44, f 45, f 46, f 47, f 48, f 49, f 50, f 51, f 52, f 53, f 54, f 55, f 56, f 57, f 58, f 59, f 60, f 61, f 62, f 63, f 64, f 65, f 66, f 67, f 68, f 69, f 70, f 71, f 72, f 73, f 74, f 75, f 76, f 77, f 78, f 79, f 80, f 81, f 82, f 83, f 84, f 85, f 86, f 87, f 88] := by
  obtain ⟨l⟩ := t
  have hl : l.length = 89 := hz
  refine ⟨fun i => l.getD i undef, ?_⟩
  have h := list_map_range undef l
  rw [hl, range89] at h
  have e : ∀ (i : Nat) (v : Value), (Array.mk l)[i]? = some v → l.getD i undef = v := fun i v hv => by
    rw [List.getD_eq_getElem?_getD, show l[i]? = some v from by simpa using hv]
    rfl
  rw [e 0 a h0, e 1 b h1, e 4 c h4, e 6 d h6] at h
  exact congrArg Array.mk h

/-- The loop of the code. -/
def findLoop : Code → Option Code
  | .loop c => some (.loop c)
  | .seq a b => match findLoop a with
    | some c => some c
    | none => findLoop b
  | .cond _ a b => match findLoop a with
    | some c => some c
    | none => findLoop b
  | .block _ c => findLoop c
  | .scope c => findLoop c
  | _ => none

set_option maxHeartbeats 8000000 in
set_option maxRecDepth 100000 in
theorem make_loop (c : Code) (hcode : (Try.f16.body.bind findLoop) = some c) (u2 u3 u5 u7 u8 u9 u10 u11 u12 u13 u14 u15 u16 u17 u18 u19 u20 u21 u22 u23 u24 u25 u26 u27 u28 u29 u30 u31 u32 u33 u34 u35 u36 u37 u38 u39 u40 u41 u42 u43 u44 u45 u46 u47 u48 u49 u50 u51 u52 u53 u54 u55 u56 u57 u58 u59 u60 u61 u62 u63 u64 u65 u66 u67 u68 u69 u70 u71 u72 u73 u74 u75 u76 u77 u78 u79 u80 u81 u82 u83 u84 u85 u86 u87 u88 : Value) (Q : Exit → Act → World → Prop) (A0 : Option Addr) (c0 : Nat) (l0 : List (S27)) (A1 : Option Addr) (c1 : Nat) (l1 : List Int) (w W : World) (gb j : Nat)
    (hr0 : Kd.C k27 w A0 l0.length l0) (hr1 : Kd.C (Kd.int .i64) w A1 l1.length l1) (hc1 : l1.length ≤ c1) (hm1 : 0 < l1.length) (hm2 : l1.length ≤ 64) (hm3 : ∀ c ∈ l1, 1 ≤ c ∧ c ≤ 100000) (hs0 : ∀ x ∈ l0, 1 ≤ x.f1 ∧ x.f1 ≤ 10000)
    (h5 : l0.length ≤ 1000) (hj : j ≤ l1.length) (hb : Below w.heap.size w W) (hbk : W.heap[gb]? = some (.cells #[.slice none 0 0, .slice none 0 0, .slice none 0 0, .slice none 0 0] 38 (0, 0))) (hgb : w.heap.size ≤ gb)
    (hret : ∀ (x2 x3 x6 x7 x8 x9 x10 x11 x12 x13 x14 x15 x16 x17 x18 x19 x20 x21 x22 x23 x24 x25 x26 x27 x28 x29 x30 x31 x32 x33 x34 x35 x36 x37 x38 x39 x40 x41 x42 x43 x44 x45 x46 x47 x48 x49 x50 x51 x52 x53 x54 x55 x56 x57 x58 x59 x60 x61 x62 x63 x64 x65 x66 x67 x68 x69 x70 x71 x72 x73 x74 x75 x76 x77 x78 x79 x80 x81 x82 x83 x84 x85 x86 x87 x88 : Value) (Ds' : List Nat) (W' : World), MarksAt w Ds' W' → EndAt w gb (makeG l0 l1 j) W' → (makeG l0 l1 j).2.2.2.2 = 0 →
      Q .ret { tmps := #[.slice A0 l0.length c0, .slice A1 l1.length c1, x2, x3, .pointer (some ⟨gb, 0, none⟩), .int .i64 0, x6, x7, x8, x9, x10, x11, x12, x13, x14, x15, x16, x17, x18, x19, x20, x21, x22, x23, x24, x25, x26, x27, x28, x29, x30, x31, x32, x33, x34, x35, x36, x37, x38, x39, x40, x41, x42, x43, x44, x45, x46, x47, x48, x49, x50, x51, x52, x53, x54, x55, x56, x57, x58, x59, x60, x61, x62, x63, x64, x65, x66, x67, x68, x69, x70, x71, x72, x73, x74, x75, x76, x77, x78, x79, x80, x81, x82, x83, x84, x85, x86, x87, x88], defers := Ds'.map mark } W')
    (hfull : ∀ (x2 x3 x5 x7 x8 x9 x10 x11 x12 x13 x14 x15 x16 x17 x18 x19 x20 x21 x22 x23 x24 x25 x26 x27 x28 x29 x30 x31 x32 x33 x34 x35 x36 x37 x38 x39 x40 x41 x42 x43 x44 x45 x46 x47 x48 x49 x50 x51 x52 x53 x54 x55 x56 x57 x58 x59 x60 x61 x62 x63 x64 x65 x66 x67 x68 x69 x70 x71 x72 x73 x74 x75 x76 x77 x78 x79 x80 x81 x82 x83 x84 x85 x86 x87 x88 : Value) (Ds' : List Nat) (W' : World), makeG l0 l1 j = ([], [], [], [], 4) → MarksAt w Ds' W' → W'.heap[gb]? = some (.cells #[.slice none 0 0, .slice none 0 0, .slice none 0 0, .slice none 0 0] 38 (0, 0)) → Below w.heap.size w W' →
      Q (.exit 0) { tmps := #[.slice A0 l0.length c0, .slice A1 l1.length c1, x2, x3, .pointer (some ⟨gb, 0, none⟩), x5, .int .i64 0, x7, x8, x9, x10, x11, x12, x13, x14, x15, x16, x17, x18, x19, x20, x21, x22, x23, x24, x25, x26, x27, x28, x29, x30, x31, x32, x33, x34, x35, x36, x37, x38, x39, x40, x41, x42, x43, x44, x45, x46, x47, x48, x49, x50, x51, x52, x53, x54, x55, x56, x57, x58, x59, x60, x61, x62, x63, x64, x65, x66, x67, x68, x69, x70, x71, x72, x73, x74, x75, x76, x77, x78, x79, x80, x81, x82, x83, x84, x85, x86, x87, x88], defers := Ds'.map mark } W') :
    c.wp Try.prog Q { tmps := #[.slice A0 l0.length c0, .slice A1 l1.length c1, u2, u3, .pointer (some ⟨gb, 0, none⟩), u5, .int .i64 (j : Int), u7, u8, u9, u10, u11, u12, u13, u14, u15, u16, u17, u18, u19, u20, u21, u22, u23, u24, u25, u26, u27, u28, u29, u30, u31, u32, u33, u34, u35, u36, u37, u38, u39, u40, u41, u42, u43, u44, u45, u46, u47, u48, u49, u50, u51, u52, u53, u54, u55, u56, u57, u58, u59, u60, u61, u62, u63, u64, u65, u66, u67, u68, u69, u70, u71, u72, u73, u74, u75, u76, u77, u78, u79, u80, u81, u82, u83, u84, u85, u86, u87, u88], defers := [] } W := by
  obtain rfl := Option.some.inj ((show (Try.f16.body.bind findLoop) = some _ from rfl).symm.trans hcode)
  clear hcode
  have HR0 := Aside0.mk hr0
  have HR1 := Aside0.mk hr1
  have HRT := Aside0.mk hret
  have HFL := Aside0.mk hfull
  have HM3 := Aside0.mk hm3
  have HS0 := Aside0.mk hs0
  clear hr0 hr1 hret hfull hm3 hs0
  refine wp_loop (fun a' W' => ∃ (t : Array Value) (Ds : List Nat) (k : Nat), a' = { tmps := t, defers := Ds.map mark } ∧ t.size = 89 ∧ t[0]? = some (.slice A0 l0.length c0) ∧ t[1]? = some (.slice A1 l1.length c1) ∧ t[4]? = some (.pointer (some ⟨gb, 0, none⟩)) ∧ t[6]? = some (.int .i64 (k : Int)) ∧ k ≤ l1.length ∧ makeFrom l0 l1 k = makeFrom l0 l1 j ∧ MarksAt w Ds W' ∧ W'.heap[gb]? = some (.cells #[.slice none 0 0, .slice none 0 0, .slice none 0 0, .slice none 0 0] 38 (0, 0)) ∧ Below w.heap.size w W')
    (fun a' _ => mu6 a') ?h0 ?round
  case h0 =>
    exact ⟨_, [], j, rfl, rfl, rfl, rfl, rfl, rfl, hj, rfl, ⟨List.nodup_nil, fun D hD => by cases hD⟩, hbk, hb⟩
  case round =>
    rintro a' W' ⟨t, Ds, k, rfl, hz, t0, t1, t4, t6, hk, hm, hM, hG, hB⟩
    obtain ⟨f, rfl⟩ := frame89 t hz t0 t1 t4 t6
    clear hz t0 t1 t4 t6
    have HM := Aside0.mk hm
    have HMK := Aside0.mk hM
    have HG := Aside0.mk hG
    have HB := Aside0.mk hB
    clear hm hM hG hB hb hbk
    refine wp_seq ?_
    by_cases hgo : 0 < k ∨ l0.length = 0
    · refine Code.wp_mono (Q := fun e a2 w2 => e = .normal ∧ w2 = W' ∧ ∃ (y26 y27 y28 y29 y30 y31 y32 : Value), a2 = { tmps := #[.slice A0 l0.length c0, .slice A1 l1.length c1, f 2, f 3, .pointer (some ⟨gb, 0, none⟩), f 5, .int .i64 (k : Int), f 7, f 8, f 9, f 10, f 11, f 12, f 13, f 14, f 15, f 16, f 17, f 18, f 19, f 20, f 21, f 22, f 23, f 24, f 25, y26, y27, y28, y29, y30, y31, y32, f 33, f 34, f 35, f 36, f 37, f 38, f 39, f 40, f 41, f 42, f 43, f 44, f 45, f 46, f 47, f 48, f 49, f 50, f 51, f 52, f 53, f 54, f 55, f 56, f 57, f 58, f 59, f 60, f 61, f 62, f 63, f 64, f 65, f 66, f 67, f 68, f 69, f 70, f 71, f 72, f 73, f 74, f 75, f 76, f 77, f 78, f 79, f 80, f 81, f 82, f 83, f 84, f 85, f 86, f 87, f 88], defers := Ds.map mark }) ?_ ?_
      · rintro e a2 w2 ⟨rfl, rfl, y26, y27, y28, y29, y30, y31, y32, rfl⟩
        refine wp_seq ?_
        refine make_attempt _ (by rfl) _ _ _ _ _ _ _ _ _ _ _ _ _ _ _ _ _ _ _ _ _ _ _ _ _ _ _ _ _ _ _ _ _ _ _ _ _ _ _ _ _ _ _ _ _ _ _ _ _ _ _ _ _ _ _ _ _ _ _ _ _ _ _ _ _ _ _ _ _ _ _ _ _ _ _ _ _ _ _ _ _ _ _ _ _ _ A0 c0 l0 A1 c1 l1 w _ gb k Ds HR0.out HR1.out hc1 hm1 hm2 HM3.out HS0.out h5 hk HB.out HG.out hgb HMK.out ?ret ?next
        case ret =>
          intro z2 z3 z6 z7 z8 z9 z10 z11 z12 z13 z14 z15 z16 z17 z18 z19 z20 z21 z22 z23 z24 z25 z26 z27 z28 z29 z30 z31 z32 z33 z34 z35 z36 z37 z38 z39 z40 z41 z42 z43 z44 z45 z46 z47 z48 z49 z50 z51 z52 z53 z54 z55 z56 z57 z58 z59 z60 z61 z62 z63 z64 z65 z66 z67 z68 z69 z70 z71 z72 z73 z74 z75 z76 z77 z78 z79 z80 z81 z82 z83 z84 z85 z86 z87 z88 Ds2 W2 hp hM2 hE2
          have hmk : makeG l0 l1 j = (l1, seatL l1 k 0 0 0 l0, loadsF l1.length (seatL l1 k 0 0 0 l0), loadsS l1.length (seatL l1 k 0 0 0 l0), 0) := by
            unfold makeG
            rw [← HM.out]
            cases k with
            | zero =>
              have he : l0 = [] := List.length_eq_zero_iff.1 (by omega)
              subst he
              rfl
            | succ k' =>
              unfold makeFrom
              rw [if_pos hp]
          exact HRT.out _ _ _ _ _ _ _ _ _ _ _ _ _ _ _ _ _ _ _ _ _ _ _ _ _ _ _ _ _ _ _ _ _ _ _ _ _ _ _ _ _ _ _ _ _ _ _ _ _ _ _ _ _ _ _ _ _ _ _ _ _ _ _ _ _ _ _ _ _ _ _ _ _ _ _ _ _ _ _ _ _ _ _ _ _ Ds2 W2 hM2 (by rw [hmk]; exact hE2) (by rw [hmk])
        case next =>
          intro z2 z3 z5 z7 z8 z9 z10 z11 z12 z13 z14 z15 z16 z17 z18 z19 z20 z21 z22 z23 z24 z25 z26 z27 z28 z29 z30 z31 z32 z33 z34 z35 z36 z37 z38 z39 z40 z41 z42 z43 z44 z45 z46 z47 z48 z49 z50 z51 z52 z53 z54 z55 z56 z57 z58 z59 z60 z61 z62 z63 z64 z65 z66 z67 z68 z69 z70 z71 z72 z73 z74 z75 z76 z77 z78 z79 z80 z81 z82 z83 z84 z85 z86 z87 z88 Ds2 W2 hp hM2 hG2 hB2
          have hk0 : 0 < k := by
            rcases hgo with h | h
            · exact h
            · exfalso
              have he : l0 = [] := List.length_eq_zero_iff.1 h
              subst he
              have : planOk [] l1 k = true := by
                simp only [planOk, seatL, loadsF, List.length_nil, List.foldl_nil, decide_true, Bool.true_and]
                exact withinL_zeros l1 (fun c hc => (HM3.out c hc).1)
              rw [this] at hp
              cases hp
          have HM2 := Aside0.mk hM2
          have HG2 := Aside0.mk hG2
          have HB2 := Aside0.mk hB2
          clear hM2 hG2 hB2
          have hw1 : wrap64 ((k : Int) - 1) = ((k - 1 : Nat) : Int) := by unfold wrap64; omega
          go_wp2
          refine ⟨⟨_, Ds2, ⟨rfl, rfl⟩, rfl, rfl, rfl, rfl, k - 1, ?_, by omega, ?_, HM2.out, HG2.out, HB2.out⟩, ?_⟩
          · show some (Value.int .i64 ((k : Int) - 1)) = some (Value.int .i64 ((k - 1 : Nat) : Int))
            rw [show ((k - 1 : Nat) : Int) = (k : Int) - 1 by omega]
          · obtain ⟨k', rfl⟩ : ∃ k', k = k' + 1 := ⟨k - 1, by omega⟩
            have h := HM.out
            rw [makeFrom, if_neg (by rw [hp]; decide)] at h
            exact h
          · show ((k : Int) - 1).toNat < ((k : Int)).toNat
            omega
      · by_cases h2 : 0 < k
        · have e1 : decide (0 < (k : Int)) = true := decide_eq_true (by omega)
          go_wp2
        · have e1 : decide (0 < (k : Int)) = false := decide_eq_false (by omega)
          have e2 : ((l0.length : Int) == 0) = true := beq_iff_eq.mpr (by omega)
          go_wp2
    · have e1 : decide (0 < (k : Int)) = false := decide_eq_false (by omega)
      have e2 : ((l0.length : Int) == 0) = false := beq_eq_false_iff_ne.mpr (by omega)
      have hfu : makeG l0 l1 j = ([], [], [], [], 4) := by
        have h := HM.out
        rw [show k = 0 by omega, makeFrom, if_neg (by omega)] at h
        unfold makeG
        rw [← h]
      obtain rfl : k = 0 := by omega
      go_wp2
      exact HFL.out _ _ _ _ _ _ _ _ _ _ _ _ _ _ _ _ _ _ _ _ _ _ _ _ _ _ _ _ _ _ _ _ _ _ _ _ _ _ _ _ _ _ _ _ _ _ _ _ _ _ _ _ _ _ _ _ _ _ _ _ _ _ _ _ _ _ _ _ _ _ _ _ _ _ _ _ _ _ _ _ _ _ _ _ _ Ds _ hfu HMK.out HG.out HB.out
end Go.Proofs.Ytbhcchcjmgfpiaa.Print

/- The contract of sequence.Make: the seats of the rule, for the largest limit at which the stackers suffice. By hand, in the printed contracts' form; the early ends of the walk were printed by the printer. -/
namespace Go.Proofs.Ytbhcchcjmgfpiaa.Print
open Go.RowKit Go.Shelf Go.Proofs.YtbhcchcjmgfpiaaW.PrintWords Go.Proofs.YtbhcchcjmgfpiaaW.PrintLast Go.Proofs.YtbhcchcjmgfpiaaW.PrintMore
attribute [local go_sem] max2_int min2_int max_two min_two max_three min_three max_four min_four
set_option linter.unusedVariables false
set_option linter.unusedSimpArgs false


theorem R_mark {α : Type} {d : Kd α} {e : Nat} {W : World} {base : Nat} {ok : Nat → Prop} {v : Value} {xs : List α} (h : d.R e W base ok v xs) {D : Nat} {x : Option (List Deferred)} (hD : W.heap[D]? = some (.deferred x)) (o : Obj) : d.R e (W.putObj D o) base ok v xs :=
  Kd.R_mono (Kd.R_step (w1 := W.putObj D o) (Kd.R_bound h) (fun k hk hlt => (grownBy_putObj' W D o).block k hlt (fun e => by
    obtain ⟨_, _, _, q, _, cells, hc⟩ := hk
    obtain rfl : k = D := by simpa using e
    rw [hD] at hc
    cases hc))) (fun _ hk => hk.1)
theorem make_end (w : World) (gb : Nat) (r : MakeR) (t : Array Value) (Ds : List Nat) (W : World) (h4 : t.getD 4 undef = .pointer (some ⟨gb, 0, none⟩)) (h5 : t.getD 5 undef = .int .i64 r.2.2.2.2) (hM : MarksAt w Ds W) (hE : EndAt w gb r W) :
    LeavesInM Fence.wide 9 Try.prog Try.f16 t (MakePost w r) (Ds.map mark) .returning W := by
  refine leaves_marks w.heap.size (fun W => EndAt w gb r W) ?hG ?hend Ds W hM.1 hM.2 hE
  case hG =>
    rintro W D hD hd ⟨v0, v1, v2, v3, hg, r0, r1, r2, r3, hb⟩
    refine ⟨v0, v1, v2, v3, ?_, R_mark r0 hd _, R_mark r1 hd _, R_mark r2 hd _, R_mark r3 hd _, hb.grown (grownBy_putObj' W D _) hb.size (fun k e => by cases e; exact hD)⟩
    refine ((grownBy_putObj' W D (.deferred none)).block gb (blk_lt hg) (fun e => ?_)).trans hg
    obtain rfl : gb = D := by simpa using e
    rw [hd] at hg
    cases hg
  case hend =>
    rintro W ⟨v0, v1, v2, v3, hg, r0, r1, r2, r3, hb⟩
    exact ⟨_, results_ct rfl _ _ gb 38 _ (0, 0) _ h4 hg Try.underlying38 rfl (by kernel_rfl), v0, v1, v2, v3, by rw [h5], r0, r1, r2, r3, hb⟩

set_option maxHeartbeats 8000000 in
set_option maxRecDepth 100000 in
theorem make_rest (A0 : Option Addr) (c0 : Nat) (l0 : List (S27)) (A1 : Option Addr) (c1 : Nat) (l1 : List Int) (w : World) (hr0 : Kd.C k27 w A0 l0.length l0) (hc0 : l0.length ≤ c0) (hr1 : Kd.C (Kd.int .i64) w A1 l1.length l1) (hc1 : l1.length ≤ c1)
    (A3 : Aside0 (sequence_machine.f l1 = some true)) (t155 : Int) (A8 : Aside0 (sequence_wrong.f l0 = some t155)) (h5 : l0.length ≤ 1000) (h9 : t155 < 0) :
    Calls Try.prog 16 #[.slice A0 l0.length c0, .slice A1 l1.length c1] w (MakePost w (makeG l0 l1 (min l0.length l1.length))) := by
  have hu38 := Try.underlying38
  have HR0 := Aside0.mk hr0
  have HC0 := Aside0.mk hc0
  have HR1 := Aside0.mk hr1
  have HC1 := Aside0.mk hc1
  clear hr0 hc0 hr1 hc1
  have HB := Aside0.mk (Below.refl w.heap.size w)
  have c5b0 : decide (1000 < (l0.length : Int)) = false := decide_eq_false (by omega)
  have c5b1 : decide (1000 < l0.length) = false := decide_eq_false (by omega)
  have c9b0 : decide (0 ≤ t155) = false := decide_eq_false (by omega)
  obtain ⟨hm1, hm2, hm3⟩ := machine_true A3.out
  have HM3 := Aside0.mk hm3
  clear hm3
  have HS := Aside0.mk (show ∀ x ∈ l0, 1 ≤ x.f1 ∧ x.f1 ≤ 10000 from fun x hx => by
    have h := A8.out
    unfold sequence_wrong.f at h
    split at h
    · have := wrongFrom_neg l0 [] 0 (by simp only [Option.some.injEq] at h; omega) x hx
      simp [badStop] at this
      omega
    · cases h)
  obtain ⟨j, hj⟩ : ∃ j : Nat, min l0.length l1.length = j := ⟨_, rfl⟩
  have hji13_ : (if (l1.length : Int) < (l0.length : Int) then (l1.length : Int) else (l0.length : Int)) = (j : Int) := by split <;> omega
  rw [hj]
  refine callsIn_wide.1 (callsIn_of_wp_marks (n := 9) Try.func16 rfl trivial (wpIn_wide.2 ?_) rfl)
  simp only [Try.ntmps16, List.size_toArray, List.length_cons, List.length_nil, Nat.reduceAdd, Nat.reduceSub, Array.replicate_succ, Array.replicate_zero, List.push_toArray, List.append_toArray, List.nil_append, List.cons_append]
  go_wp2_with (first | ((with_reducible refine gate_dst (N := 4) rfl ?_); (try (refine gate_guard (by rfl) ?_; dsimp only)); refine box_event ?hg (N := 4) ?hd (cs := #[.slice none 0 0, .slice none 0 0, .slice none 0 0, .slice none 0 0]) (t := 38) ?hr ?_; (case hd => rfl); (case hg => rfl); (case hr => first | (go_simp; done) | (go_simp; rfl)); intro gb153 hg w14 hbox hb; have n0_ := Aside0.mk (below_step (by repeat (first | (with_reducible first | exact HB.out | apply below_alloc | apply pw_below_drewN | apply below_drew1) | exact HB.out)) hb); have n1_ := Aside0.mk (hbox); have n2_ := Aside0.mk ((by rw [hg]; exact (below_size (by repeat (first | (with_reducible first | exact HB.out | apply below_alloc | apply pw_below_drewN | apply below_drew1) | exact HB.out))) : w.heap.size ≤ gb153)); have n3_ := Aside0.mk ((by rw [hg]; exact (below_size (by repeat (first | (with_reducible first | exact HB.out | apply below_alloc | apply pw_below_drewN | apply below_drew1) | exact HB.out))) : w.heap.size ≤ gb153)); clear HB; have HB := n0_; have BK153 := n1_; have GW153 := n2_; have GE153 := n3_; clear n0_ n1_ n2_ n3_; clear hb hbox hg) | ((with_reducible refine gate_callee (f := 36) rfl ?_); refine goesL_ (some 10) rfl rfl Try.func36 (by kernel_rfl) rfl #[.slice A1 l1.length c1] rfl (by (try simp only [List.map_toArray, List.map_cons, List.map_nil]); first | done | rfl | (simp only [List.length_drop, List.length_take]; rfl)) ?_; (with_reducible refine (sequence_machine.calls _ _ l1 true _ ?side1 ?side2 A3.out).mono ?_); (case side1 => repeat (first | exact (Kd.C_below HR1.out HB.out) | (with_reducible refine Kd.C_alloc ?_ _) | (with_reducible refine Kd.C_drewN ?_ _) | (with_reducible refine Kd.C_drew ?_))); (case side2 => exact HC1.out); rintro e w' ⟨rfl, ⟨nd, rfl⟩⟩; refine ⟨_, rfl, ?_⟩) | ((with_reducible refine gate_callee (f := 37) rfl ?_); refine goesL_ (some 18) rfl rfl Try.func37 (by kernel_rfl) rfl #[.slice A0 l0.length c0] rfl (by (try simp only [List.map_toArray, List.map_cons, List.map_nil]); first | done | rfl | (simp only [List.length_drop, List.length_take]; rfl)) ?_; (with_reducible refine (sequence_wrong.calls _ _ l0 t155 _ ?side1 ?side2 A8.out).mono ?_); (case side1 => repeat (first | exact (Kd.C_below HR0.out (by repeat (first | (with_reducible first | exact HB.out | apply below_alloc | apply pw_below_drewN | apply below_drew1 | refine below_set ?_ GE153.out) | exact HB.out))) | (with_reducible refine Kd.C_alloc ?_ _) | (with_reducible refine Kd.C_drewN ?_ _) | (with_reducible refine Kd.C_drew ?_))); (case side2 => exact HC0.out); rintro e w15 ⟨rfl, hb⟩; refine ⟨_, rfl, ?_⟩; have n0_ := Aside0.mk (blk_below (g := gb153) (o := .cells #[.slice none 0 0, .slice none 0 0, .slice none 0 0, .slice none 0 0] 38 (0, 0)) (by (with_reducible repeat (first | refine blk_drewN ?_ _ | refine blk_drew ?_ | refine blk_alloc ?_ _)); exact BK153.out) hb); have n1_ := Aside0.mk (below_step (by repeat (first | (with_reducible first | exact HB.out | apply below_alloc | apply pw_below_drewN | apply below_drew1 | refine below_set ?_ GE153.out) | exact HB.out)) hb); clear BK153; clear HB; have BK153 := n0_; have HB := n1_; clear n0_ n1_; (try clear hb); (try clear hb2); (try clear hk); (try clear hi)))
  all_goals (first
    | (obtain rfl : j = l0.length := by omega
       refine make_loop _ (by rfl) _ _ _ _ _ _ _ _ _ _ _ _ _ _ _ _ _ _ _ _ _ _ _ _ _ _ _ _ _ _ _ _ _ _ _ _ _ _ _ _ _ _ _ _ _ _ _ _ _ _ _ _ _ _ _ _ _ _ _ _ _ _ _ _ _ _ _ _ _ _ _ _ _ _ _ _ _ _ _ _ _ _ _ _ _ _ A0 c0 l0 A1 c1 l1 w _ gb153 l0.length HR0.out HR1.out HC1.out hm1 hm2 HM3.out HS.out h5 (by omega) HB.out BK153.out GW153.out ?_ ?_)
    | (obtain rfl : j = l1.length := by omega
       refine make_loop _ (by rfl) _ _ _ _ _ _ _ _ _ _ _ _ _ _ _ _ _ _ _ _ _ _ _ _ _ _ _ _ _ _ _ _ _ _ _ _ _ _ _ _ _ _ _ _ _ _ _ _ _ _ _ _ _ _ _ _ _ _ _ _ _ _ _ _ _ _ _ _ _ _ _ _ _ _ _ _ _ _ _ _ _ _ _ _ _ _ A0 c0 l0 A1 c1 l1 w _ gb153 l1.length HR0.out HR1.out HC1.out hm1 hm2 HM3.out HS.out h5 (by omega) HB.out BK153.out GW153.out ?_ ?_))
  · intro x2 x3 x6 x7 x8 x9 x10 x11 x12 x13 x14 x15 x16 x17 x18 x19 x20 x21 x22 x23 x24 x25 x26 x27 x28 x29 x30 x31 x32 x33 x34 x35 x36 x37 x38 x39 x40 x41 x42 x43 x44 x45 x46 x47 x48 x49 x50 x51 x52 x53 x54 x55 x56 x57 x58 x59 x60 x61 x62 x63 x64 x65 x66 x67 x68 x69 x70 x71 x72 x73 x74 x75 x76 x77 x78 x79 x80 x81 x82 x83 x84 x85 x86 x87 x88 Ds W hM hE h0
    exact make_end w gb153 _ _ Ds W rfl (by rw [h0]; rfl) hM hE
  · intro x2 x3 x5 x7 x8 x9 x10 x11 x12 x13 x14 x15 x16 x17 x18 x19 x20 x21 x22 x23 x24 x25 x26 x27 x28 x29 x30 x31 x32 x33 x34 x35 x36 x37 x38 x39 x40 x41 x42 x43 x44 x45 x46 x47 x48 x49 x50 x51 x52 x53 x54 x55 x56 x57 x58 x59 x60 x61 x62 x63 x64 x65 x66 x67 x68 x69 x70 x71 x72 x73 x74 x75 x76 x77 x78 x79 x80 x81 x82 x83 x84 x85 x86 x87 x88 Ds W hmk hM hG hBW
    have HME := Aside0.mk hmk
    have HMK := Aside0.mk hM
    have HG := Aside0.mk hG
    have HBW := Aside0.mk hBW
    clear hM hG hBW hmk
    have y0 : W.cell? ⟨gb153, 0, none⟩ = some (.slice none 0 0) := (blk_cell HG.out 0).trans rfl
    have y1 : W.cell? ⟨gb153, 1, none⟩ = some (.slice none 0 0) := (blk_cell HG.out 1).trans rfl
    have y2 : W.cell? ⟨gb153, 2, none⟩ = some (.slice none 0 0) := (blk_cell HG.out 2).trans rfl
    have y3 : W.cell? ⟨gb153, 3, none⟩ = some (.slice none 0 0) := (blk_cell HG.out 3).trans rfl
    have z0 := blk_frozen HG.out 0
    have z1 := blk_frozen HG.out 1
    have z2 := blk_frozen HG.out 2
    have z3 := blk_frozen HG.out 3
    go_wp2
    have s4 := set4 (x0 := .slice none 0 0) (x1 := .slice none 0 0) (x2 := .slice none 0 0) (x3 := .slice none 0 0) HG.out GW153.out HBW.out
    rw [HME.out]
    exact make_end w gb153 _ _ Ds _ rfl rfl ⟨HMK.out.1, fun D' hD' => ⟨(HMK.out.2 D' hD').1, s4.2.1 D' _ (HMK.out.2 D' hD').2 (fun e => by
      subst e
      have h1_ := (HMK.out.2 _ hD').2
      rw [HG.out] at h1_
      cases h1_)⟩⟩ ⟨_, _, _, _, s4.1, Kd.R_nil _ _ _ _ _, Kd.R_nil _ _ _ _ _, Kd.R_nil _ _ _ _ _, Kd.R_nil _ _ _ _ _, s4.2.2⟩
  · intro x2 x3 x6 x7 x8 x9 x10 x11 x12 x13 x14 x15 x16 x17 x18 x19 x20 x21 x22 x23 x24 x25 x26 x27 x28 x29 x30 x31 x32 x33 x34 x35 x36 x37 x38 x39 x40 x41 x42 x43 x44 x45 x46 x47 x48 x49 x50 x51 x52 x53 x54 x55 x56 x57 x58 x59 x60 x61 x62 x63 x64 x65 x66 x67 x68 x69 x70 x71 x72 x73 x74 x75 x76 x77 x78 x79 x80 x81 x82 x83 x84 x85 x86 x87 x88 Ds W hM hE h0
    exact make_end w gb153 _ _ Ds W rfl (by rw [h0]; rfl) hM hE
  · intro x2 x3 x5 x7 x8 x9 x10 x11 x12 x13 x14 x15 x16 x17 x18 x19 x20 x21 x22 x23 x24 x25 x26 x27 x28 x29 x30 x31 x32 x33 x34 x35 x36 x37 x38 x39 x40 x41 x42 x43 x44 x45 x46 x47 x48 x49 x50 x51 x52 x53 x54 x55 x56 x57 x58 x59 x60 x61 x62 x63 x64 x65 x66 x67 x68 x69 x70 x71 x72 x73 x74 x75 x76 x77 x78 x79 x80 x81 x82 x83 x84 x85 x86 x87 x88 Ds W hmk hM hG hBW
    have HME := Aside0.mk hmk
    have HMK := Aside0.mk hM
    have HG := Aside0.mk hG
    have HBW := Aside0.mk hBW
    clear hM hG hBW hmk
    have y0 : W.cell? ⟨gb153, 0, none⟩ = some (.slice none 0 0) := (blk_cell HG.out 0).trans rfl
    have y1 : W.cell? ⟨gb153, 1, none⟩ = some (.slice none 0 0) := (blk_cell HG.out 1).trans rfl
    have y2 : W.cell? ⟨gb153, 2, none⟩ = some (.slice none 0 0) := (blk_cell HG.out 2).trans rfl
    have y3 : W.cell? ⟨gb153, 3, none⟩ = some (.slice none 0 0) := (blk_cell HG.out 3).trans rfl
    have z0 := blk_frozen HG.out 0
    have z1 := blk_frozen HG.out 1
    have z2 := blk_frozen HG.out 2
    have z3 := blk_frozen HG.out 3
    go_wp2
    have s4 := set4 (x0 := .slice none 0 0) (x1 := .slice none 0 0) (x2 := .slice none 0 0) (x3 := .slice none 0 0) HG.out GW153.out HBW.out
    rw [HME.out]
    exact make_end w gb153 _ _ Ds _ rfl rfl ⟨HMK.out.1, fun D' hD' => ⟨(HMK.out.2 D' hD').1, s4.2.1 D' _ (HMK.out.2 D' hD').2 (fun e => by
      subst e
      have h1_ := (HMK.out.2 _ hD').2
      rw [HG.out] at h1_
      cases h1_)⟩⟩ ⟨_, _, _, _, s4.1, Kd.R_nil _ _ _ _ _, Kd.R_nil _ _ _ _ _, Kd.R_nil _ _ _ _ _, Kd.R_nil _ _ _ _ _, s4.2.2⟩
set_option maxHeartbeats 8000000 in
set_option maxRecDepth 100000 in
theorem sequence_Make.calls (A0 : Option Addr) (c0 : Nat) (l0 : List (S27)) (A1 : Option Addr) (c1 : Nat) (l1 : List Int) (r1 : List Int) (r2 : List (S60)) (r3 : List Int) (r4 : List Int) (r5 : Int) (w : World) (hr0 : Kd.C k27 w A0 l0.length l0) (hc0 : l0.length ≤ c0) (hr1 : Kd.C (Kd.int .i64) w A1 l1.length l1) (hc1 : l1.length ≤ c1) (h : sequence_Make.f l0 l1 = some (r1, r2, r3, r4, r5)) :
    Calls Try.prog 16 #[.slice A0 l0.length c0, .slice A1 l1.length c1] w fun e w' => ∃ v0_ v1_ v2_ v3_ : Value, e = .returned (.tuple #[.agg #[v0_, v1_, v2_, v3_], .int .i64 r5]) ∧ Kd.R (Kd.int .i64) 3 w' w.heap.size (fun k_ => some k_ ≠ (v2_ : Value).ownBlock ∧ some k_ ≠ (v3_ : Value).ownBlock) v0_ r1 ∧ Kd.R k60 60 w' w.heap.size (fun _ => True) v1_ r2 ∧ Kd.R (Kd.int .i64) 3 w' w.heap.size (fun k_ => some k_ ≠ (v0_ : Value).ownBlock ∧ some k_ ≠ (v3_ : Value).ownBlock) v2_ r3 ∧ Kd.R (Kd.int .i64) 3 w' w.heap.size (fun k_ => some k_ ≠ (v0_ : Value).ownBlock ∧ some k_ ≠ (v2_ : Value).ownBlock) v3_ r4 ∧ Below w.heap.size w w' := by
  have hu38 := Try.underlying38
  have HR0 := Aside0.mk hr0
  have HC0 := Aside0.mk hc0
  clear hr0 hc0
  have HR1 := Aside0.mk hr1
  have HC1 := Aside0.mk hc1
  clear hr1 hc1
  have HB := Aside0.mk (Below.refl w.heap.size w)
  have H : ((sequence_machine.f l1).bind fun t154 => (if t154 = true then (if (l0.length : Int) > 1000 then (some (([] : List Int), ([] : List (S60)), ([] : List Int), ([] : List Int), 5)) else ((sequence_wrong.f l0).bind fun t155 => (if t155 ≥ 0 then (some (([] : List Int), ([] : List (S60)), ([] : List Int), ([] : List Int), 281)) else (some (makeG l0 l1 (min l0.length l1.length)))))) else (some (([] : List Int), ([] : List (S60)), ([] : List Int), ([] : List Int), 280)))) = some (r1, r2, r3, r4, r5) := h
  clear h
  replace H := Option.bind_eq_some_iff.mp H
  obtain ⟨t154, A30, H⟩ := H
  replace H : (if t154 = true then (if (l0.length : Int) > 1000 then (some (([] : List Int), ([] : List (S60)), ([] : List Int), ([] : List Int), 5)) else ((sequence_wrong.f l0).bind fun t155 => (if t155 ≥ 0 then (some (([] : List Int), ([] : List (S60)), ([] : List Int), ([] : List Int), 281)) else (some (makeG l0 l1 (min l0.length l1.length)))))) else (some (([] : List Int), ([] : List (S60)), ([] : List Int), ([] : List Int), 280))) = some (r1, r2, r3, r4, r5) := H
  have A3 := Aside0.mk A30
  clear A30
  by_cases c4 : t154 = true
  · subst c4
    have H1 : (if (l0.length : Int) > 1000 then (some (([] : List Int), ([] : List (S60)), ([] : List Int), ([] : List Int), 5)) else ((sequence_wrong.f l0).bind fun t155 => (if t155 ≥ 0 then (some (([] : List Int), ([] : List (S60)), ([] : List Int), ([] : List Int), 281)) else (some (makeG l0 l1 (min l0.length l1.length)))))) = some (r1, r2, r3, r4, r5) := by rw [if_pos rfl] at H; exact H
    clear H
    have H := H1
    clear H1
    by_cases c5 : (l0.length : Int) > 1000
    · rw [if_pos c5] at H
      have c5b0 : decide (1000 < (l0.length : Int)) = true := decide_eq_true c5
      have c5b1 : decide (1000 < l0.length) = true := decide_eq_true (by omega)
      clear c5
      simp only [Option.some.injEq, Prod.mk.injEq] at H
      obtain ⟨rfl, rfl, rfl, rfl, rfl⟩ := H
      go_enter Try.func16, Try.ntmps16
      go_wp2_with (first | ((with_reducible refine gate_dst (N := 4) rfl ?_); (try (refine gate_guard (by rfl) ?_; dsimp only)); refine box_event ?hg (N := 4) ?hd (cs := #[.slice none 0 0, .slice none 0 0, .slice none 0 0, .slice none 0 0]) (t := 38) ?hr ?_; (case hd => rfl); (case hg => rfl); (case hr => first | (go_simp; done) | (go_simp; rfl)); intro gb153 hg w6 hbox hb; have n0_ := Aside0.mk (below_step (by repeat (first | (with_reducible first | exact HB.out | apply below_alloc | apply pw_below_drewN | apply below_drew1) | exact HB.out)) hb); have n1_ := Aside0.mk (hbox); have n2_ := Aside0.mk ((by rw [hg]; exact (below_size (by repeat (first | (with_reducible first | exact HB.out | apply below_alloc | apply pw_below_drewN | apply below_drew1) | exact HB.out))) : w.heap.size ≤ gb153)); have n3_ := Aside0.mk ((by rw [hg]; exact (below_size (by repeat (first | (with_reducible first | exact HB.out | apply below_alloc | apply pw_below_drewN | apply below_drew1) | exact HB.out))) : w.heap.size ≤ gb153)); clear HB; have HB := n0_; have BK153 := n1_; have GW153 := n2_; have GE153 := n3_; clear n0_ n1_ n2_ n3_; clear hb hbox hg) | ((with_reducible refine gate_callee (f := 36) rfl ?_); refine goesL_ (some 10) rfl rfl Try.func36 (by kernel_rfl) rfl #[.slice A1 l1.length c1] rfl (by (try simp only [List.map_toArray, List.map_cons, List.map_nil]); first | done | rfl | (simp only [List.length_drop, List.length_take]; rfl)) ?_; (with_reducible refine (sequence_machine.calls _ _ l1 true _ ?side1 ?side2 A3.out).mono ?_); (case side1 => repeat (first | exact (Kd.C_below HR1.out HB.out) | (with_reducible refine Kd.C_alloc ?_ _) | (with_reducible refine Kd.C_drewN ?_ _) | (with_reducible refine Kd.C_drew ?_))); (case side2 => exact HC1.out); rintro e w' ⟨rfl, ⟨nd, rfl⟩⟩; refine ⟨_, rfl, ?_⟩; (try (rw [drewN_self w6]; generalize hq_ : World.drewN w6 _ = w6; have n0_ : Aside0 (w6.heap[gb153]? = some (.cells #[.slice none 0 0, .slice none 0 0, .slice none 0 0, .slice none 0 0] 38 (0, 0))) := ⟨by rw [← hq_]; exact (by (with_reducible repeat (first | refine blk_drewN ?_ _ | refine blk_drew ?_ | refine blk_alloc ?_ _)); exact BK153.out)⟩; have n1_ : Aside0 (Below w.heap.size w w6) := ⟨by rw [← hq_]; exact (by repeat (first | (with_reducible first | exact HB.out | apply below_alloc | apply pw_below_drewN | apply below_drew1 | refine below_set ?_ GE153.out) | exact HB.out))⟩; clear BK153 HB hq_; have BK153 := n0_; have HB := n1_; clear n0_ n1_)); have hcz7_0 : w6.cell? ⟨gb153, 0, none⟩ = some (.slice none 0 0) := (blk_cell BK153.out 0).trans rfl; have hcz7_1 : w6.cell? ⟨gb153, 1, none⟩ = some (.slice none 0 0) := (blk_cell BK153.out 1).trans rfl; have hcz7_2 : w6.cell? ⟨gb153, 2, none⟩ = some (.slice none 0 0) := (blk_cell BK153.out 2).trans rfl; have hcz7_3 : w6.cell? ⟨gb153, 3, none⟩ = some (.slice none 0 0) := (blk_cell BK153.out 3).trans rfl; have hfz7_0 := blk_frozen BK153.out 0; have hfz7_1 := blk_frozen BK153.out 1; have hfz7_2 := blk_frozen BK153.out 2; have hfz7_3 := blk_frozen BK153.out 3))
      refine bodyPost_ret (results_ct rfl _ _ gb153 38 #[.slice none 0 0, .slice none 0 0, .slice none 0 0, .slice none 0 0] (0, 0) _ rfl (by (with_reducible repeat (first | refine blk_drewN ?_ _ | refine blk_drew ?_ | refine blk_alloc ?_ _)); refine blk_put (cs := #[.slice none 0 0, .slice none 0 0, .slice none 0 0, .slice none 0 0]) ?_ 3 _ rfl; (with_reducible repeat (first | refine blk_drewN ?_ _ | refine blk_drew ?_ | refine blk_alloc ?_ _)); refine blk_put (cs := #[.slice none 0 0, .slice none 0 0, .slice none 0 0, .slice none 0 0]) ?_ 2 _ rfl; (with_reducible repeat (first | refine blk_drewN ?_ _ | refine blk_drew ?_ | refine blk_alloc ?_ _)); refine blk_put (cs := #[.slice none 0 0, .slice none 0 0, .slice none 0 0, .slice none 0 0]) ?_ 1 _ rfl; (with_reducible repeat (first | refine blk_drewN ?_ _ | refine blk_drew ?_ | refine blk_alloc ?_ _)); refine blk_put (cs := #[.slice none 0 0, .slice none 0 0, .slice none 0 0, .slice none 0 0]) ?_ 0 _ rfl; (with_reducible repeat (first | refine blk_drewN ?_ _ | refine blk_drew ?_ | refine blk_alloc ?_ _)); exact BK153.out) Try.underlying38 rfl (by kernel_rfl)) rfl ?_
      exact ⟨_, _, _, _, by first | rfl | (simp [errW_none, errW_some] <;> rfl) | (simp [*, errW_none, errW_some] <;> rfl), by first | exact Kd.R_nil _ _ _ _ _ | exact Kd.N_nil _ _ _ _ _ | exact Kd.V_nil _ _ _ _ _ | exact Kd.Q_nil _ _ _ _ _ | exact Kd.S_nil _ _ _ _ _, by first | exact Kd.R_nil _ _ _ _ _ | exact Kd.N_nil _ _ _ _ _ | exact Kd.V_nil _ _ _ _ _ | exact Kd.Q_nil _ _ _ _ _ | exact Kd.S_nil _ _ _ _ _, by first | exact Kd.R_nil _ _ _ _ _ | exact Kd.N_nil _ _ _ _ _ | exact Kd.V_nil _ _ _ _ _ | exact Kd.Q_nil _ _ _ _ _ | exact Kd.S_nil _ _ _ _ _, by first | exact Kd.R_nil _ _ _ _ _ | exact Kd.N_nil _ _ _ _ _ | exact Kd.V_nil _ _ _ _ _ | exact Kd.Q_nil _ _ _ _ _ | exact Kd.S_nil _ _ _ _ _, by repeat (first | (with_reducible first | exact HB.out | apply below_alloc | apply pw_below_drewN | apply below_drew1 | refine below_set ?_ GE153.out) | exact HB.out)⟩
    · rw [if_neg c5] at H
      have c5b0 : decide (1000 < (l0.length : Int)) = false := decide_eq_false c5
      have c5b1 : decide (1000 < l0.length) = false := decide_eq_false (by omega)
      clear c5
      replace H := Option.bind_eq_some_iff.mp H
      obtain ⟨t155, A80, H⟩ := H
      replace H : (if t155 ≥ 0 then (some (([] : List Int), ([] : List (S60)), ([] : List Int), ([] : List Int), 281)) else (some (makeG l0 l1 (min l0.length l1.length)))) = some (r1, r2, r3, r4, r5) := H
      have A8 := Aside0.mk A80
      clear A80
      by_cases c9 : t155 ≥ 0
      · rw [if_pos c9] at H
        have c9b0 : decide (0 ≤ t155) = true := decide_eq_true c9
        clear c9
        simp only [Option.some.injEq, Prod.mk.injEq] at H
        obtain ⟨rfl, rfl, rfl, rfl, rfl⟩ := H
        go_enter Try.func16, Try.ntmps16
        go_wp2_with (first | ((with_reducible refine gate_dst (N := 4) rfl ?_); (try (refine gate_guard (by rfl) ?_; dsimp only)); refine box_event ?hg (N := 4) ?hd (cs := #[.slice none 0 0, .slice none 0 0, .slice none 0 0, .slice none 0 0]) (t := 38) ?hr ?_; (case hd => rfl); (case hg => rfl); (case hr => first | (go_simp; done) | (go_simp; rfl)); intro gb153 hg w10 hbox hb; have n0_ := Aside0.mk (below_step (by repeat (first | (with_reducible first | exact HB.out | apply below_alloc | apply pw_below_drewN | apply below_drew1) | exact HB.out)) hb); have n1_ := Aside0.mk (hbox); have n2_ := Aside0.mk ((by rw [hg]; exact (below_size (by repeat (first | (with_reducible first | exact HB.out | apply below_alloc | apply pw_below_drewN | apply below_drew1) | exact HB.out))) : w.heap.size ≤ gb153)); have n3_ := Aside0.mk ((by rw [hg]; exact (below_size (by repeat (first | (with_reducible first | exact HB.out | apply below_alloc | apply pw_below_drewN | apply below_drew1) | exact HB.out))) : w.heap.size ≤ gb153)); clear HB; have HB := n0_; have BK153 := n1_; have GW153 := n2_; have GE153 := n3_; clear n0_ n1_ n2_ n3_; clear hb hbox hg) | ((with_reducible refine gate_callee (f := 36) rfl ?_); refine goesL_ (some 10) rfl rfl Try.func36 (by kernel_rfl) rfl #[.slice A1 l1.length c1] rfl (by (try simp only [List.map_toArray, List.map_cons, List.map_nil]); first | done | rfl | (simp only [List.length_drop, List.length_take]; rfl)) ?_; (with_reducible refine (sequence_machine.calls _ _ l1 true _ ?side1 ?side2 A3.out).mono ?_); (case side1 => repeat (first | exact (Kd.C_below HR1.out HB.out) | (with_reducible refine Kd.C_alloc ?_ _) | (with_reducible refine Kd.C_drewN ?_ _) | (with_reducible refine Kd.C_drew ?_))); (case side2 => exact HC1.out); rintro e w' ⟨rfl, ⟨nd, rfl⟩⟩; refine ⟨_, rfl, ?_⟩; (try (rw [drewN_self w10]; generalize hq_ : World.drewN w10 _ = w10; have n0_ : Aside0 (w10.heap[gb153]? = some (.cells #[.slice none 0 0, .slice none 0 0, .slice none 0 0, .slice none 0 0] 38 (0, 0))) := ⟨by rw [← hq_]; exact (by (with_reducible repeat (first | refine blk_drewN ?_ _ | refine blk_drew ?_ | refine blk_alloc ?_ _)); exact BK153.out)⟩; have n1_ : Aside0 (Below w.heap.size w w10) := ⟨by rw [← hq_]; exact (by repeat (first | (with_reducible first | exact HB.out | apply below_alloc | apply pw_below_drewN | apply below_drew1 | refine below_set ?_ GE153.out) | exact HB.out))⟩; clear BK153 HB hq_; have BK153 := n0_; have HB := n1_; clear n0_ n1_))) | ((with_reducible refine gate_callee (f := 37) rfl ?_); refine goesL_ (some 18) rfl rfl Try.func37 (by kernel_rfl) rfl #[.slice A0 l0.length c0] rfl (by (try simp only [List.map_toArray, List.map_cons, List.map_nil]); first | done | rfl | (simp only [List.length_drop, List.length_take]; rfl)) ?_; (with_reducible refine (sequence_wrong.calls _ _ l0 t155 _ ?side1 ?side2 A8.out).mono ?_); (case side1 => repeat (first | exact (Kd.C_below HR0.out HB.out) | (with_reducible refine Kd.C_alloc ?_ _) | (with_reducible refine Kd.C_drewN ?_ _) | (with_reducible refine Kd.C_drew ?_))); (case side2 => exact HC0.out); rintro e w11 ⟨rfl, hb⟩; refine ⟨_, rfl, ?_⟩; have n0_ := Aside0.mk (blk_below (g := gb153) (o := .cells #[.slice none 0 0, .slice none 0 0, .slice none 0 0, .slice none 0 0] 38 (0, 0)) (by (with_reducible repeat (first | refine blk_drewN ?_ _ | refine blk_drew ?_ | refine blk_alloc ?_ _)); exact BK153.out) hb); have n1_ := Aside0.mk (below_step (by repeat (first | (with_reducible first | exact HB.out | apply below_alloc | apply pw_below_drewN | apply below_drew1 | refine below_set ?_ GE153.out) | exact HB.out)) hb); clear BK153; clear HB; have BK153 := n0_; have HB := n1_; clear n0_ n1_; (try clear hb); (try clear hb2); (try clear hk); (try clear hi); have hcz12_0 : w11.cell? ⟨gb153, 0, none⟩ = some (.slice none 0 0) := (blk_cell BK153.out 0).trans rfl; have hcz12_1 : w11.cell? ⟨gb153, 1, none⟩ = some (.slice none 0 0) := (blk_cell BK153.out 1).trans rfl; have hcz12_2 : w11.cell? ⟨gb153, 2, none⟩ = some (.slice none 0 0) := (blk_cell BK153.out 2).trans rfl; have hcz12_3 : w11.cell? ⟨gb153, 3, none⟩ = some (.slice none 0 0) := (blk_cell BK153.out 3).trans rfl; have hfz12_0 := blk_frozen BK153.out 0; have hfz12_1 := blk_frozen BK153.out 1; have hfz12_2 := blk_frozen BK153.out 2; have hfz12_3 := blk_frozen BK153.out 3))
        refine bodyPost_ret (results_ct rfl _ _ gb153 38 #[.slice none 0 0, .slice none 0 0, .slice none 0 0, .slice none 0 0] (0, 0) _ rfl (by (with_reducible repeat (first | refine blk_drewN ?_ _ | refine blk_drew ?_ | refine blk_alloc ?_ _)); refine blk_put (cs := #[.slice none 0 0, .slice none 0 0, .slice none 0 0, .slice none 0 0]) ?_ 3 _ rfl; (with_reducible repeat (first | refine blk_drewN ?_ _ | refine blk_drew ?_ | refine blk_alloc ?_ _)); refine blk_put (cs := #[.slice none 0 0, .slice none 0 0, .slice none 0 0, .slice none 0 0]) ?_ 2 _ rfl; (with_reducible repeat (first | refine blk_drewN ?_ _ | refine blk_drew ?_ | refine blk_alloc ?_ _)); refine blk_put (cs := #[.slice none 0 0, .slice none 0 0, .slice none 0 0, .slice none 0 0]) ?_ 1 _ rfl; (with_reducible repeat (first | refine blk_drewN ?_ _ | refine blk_drew ?_ | refine blk_alloc ?_ _)); refine blk_put (cs := #[.slice none 0 0, .slice none 0 0, .slice none 0 0, .slice none 0 0]) ?_ 0 _ rfl; (with_reducible repeat (first | refine blk_drewN ?_ _ | refine blk_drew ?_ | refine blk_alloc ?_ _)); exact BK153.out) Try.underlying38 rfl (by kernel_rfl)) rfl ?_
        exact ⟨_, _, _, _, by first | rfl | (simp [errW_none, errW_some] <;> rfl) | (simp [*, errW_none, errW_some] <;> rfl), by first | exact Kd.R_nil _ _ _ _ _ | exact Kd.N_nil _ _ _ _ _ | exact Kd.V_nil _ _ _ _ _ | exact Kd.Q_nil _ _ _ _ _ | exact Kd.S_nil _ _ _ _ _, by first | exact Kd.R_nil _ _ _ _ _ | exact Kd.N_nil _ _ _ _ _ | exact Kd.V_nil _ _ _ _ _ | exact Kd.Q_nil _ _ _ _ _ | exact Kd.S_nil _ _ _ _ _, by first | exact Kd.R_nil _ _ _ _ _ | exact Kd.N_nil _ _ _ _ _ | exact Kd.V_nil _ _ _ _ _ | exact Kd.Q_nil _ _ _ _ _ | exact Kd.S_nil _ _ _ _ _, by first | exact Kd.R_nil _ _ _ _ _ | exact Kd.N_nil _ _ _ _ _ | exact Kd.V_nil _ _ _ _ _ | exact Kd.Q_nil _ _ _ _ _ | exact Kd.S_nil _ _ _ _ _, by repeat (first | (with_reducible first | exact HB.out | apply below_alloc | apply pw_below_drewN | apply below_drew1 | refine below_set ?_ GE153.out) | exact HB.out)⟩
      · rw [if_neg c9] at H
        have h5 : ¬ 1000 < l0.length := of_decide_eq_false c5b1
        have h9 : ¬ 0 ≤ t155 := c9
        have h := make_rest A0 c0 l0 A1 c1 l1 w HR0.out HC0.out HR1.out HC1.out A3 t155 A8 (by omega) (by omega)
        rw [Option.some.inj H] at h
        exact h
  · replace c4 := Bool.eq_false_iff.mpr c4
    subst c4
    have H1 : (some (([] : List Int), ([] : List (S60)), ([] : List Int), ([] : List Int), 280)) = some (r1, r2, r3, r4, r5) := by rw [if_neg (show ¬ (false = true) by decide)] at H; exact H
    clear H
    have H := H1
    clear H1
    simp only [Option.some.injEq, Prod.mk.injEq] at H
    obtain ⟨rfl, rfl, rfl, rfl, rfl⟩ := H
    go_enter Try.func16, Try.ntmps16
    go_wp2_with (first | ((with_reducible refine gate_dst (N := 4) rfl ?_); (try (refine gate_guard (by rfl) ?_; dsimp only)); refine box_event ?hg (N := 4) ?hd (cs := #[.slice none 0 0, .slice none 0 0, .slice none 0 0, .slice none 0 0]) (t := 38) ?hr ?_; (case hd => rfl); (case hg => rfl); (case hr => first | (go_simp; done) | (go_simp; rfl)); intro gb153 hg w67 hbox hb; have n0_ := Aside0.mk (below_step (by repeat (first | (with_reducible first | exact HB.out | apply below_alloc | apply pw_below_drewN | apply below_drew1) | exact HB.out)) hb); have n1_ := Aside0.mk (hbox); have n2_ := Aside0.mk ((by rw [hg]; exact (below_size (by repeat (first | (with_reducible first | exact HB.out | apply below_alloc | apply pw_below_drewN | apply below_drew1) | exact HB.out))) : w.heap.size ≤ gb153)); have n3_ := Aside0.mk ((by rw [hg]; exact (below_size (by repeat (first | (with_reducible first | exact HB.out | apply below_alloc | apply pw_below_drewN | apply below_drew1) | exact HB.out))) : w.heap.size ≤ gb153)); clear HB; have HB := n0_; have BK153 := n1_; have GW153 := n2_; have GE153 := n3_; clear n0_ n1_ n2_ n3_; clear hb hbox hg) | ((with_reducible refine gate_callee (f := 36) rfl ?_); refine goesL_ (some 10) rfl rfl Try.func36 (by kernel_rfl) rfl #[.slice A1 l1.length c1] rfl (by (try simp only [List.map_toArray, List.map_cons, List.map_nil]); first | done | rfl | (simp only [List.length_drop, List.length_take]; rfl)) ?_; (with_reducible refine (sequence_machine.calls _ _ l1 false _ ?side1 ?side2 A3.out).mono ?_); (case side1 => repeat (first | exact (Kd.C_below HR1.out HB.out) | (with_reducible refine Kd.C_alloc ?_ _) | (with_reducible refine Kd.C_drewN ?_ _) | (with_reducible refine Kd.C_drew ?_))); (case side2 => exact HC1.out); rintro e w' ⟨rfl, ⟨nd, rfl⟩⟩; refine ⟨_, rfl, ?_⟩; (try (rw [drewN_self w67]; generalize hq_ : World.drewN w67 _ = w67; have n0_ : Aside0 (w67.heap[gb153]? = some (.cells #[.slice none 0 0, .slice none 0 0, .slice none 0 0, .slice none 0 0] 38 (0, 0))) := ⟨by rw [← hq_]; exact (by (with_reducible repeat (first | refine blk_drewN ?_ _ | refine blk_drew ?_ | refine blk_alloc ?_ _)); exact BK153.out)⟩; have n1_ : Aside0 (Below w.heap.size w w67) := ⟨by rw [← hq_]; exact (by repeat (first | (with_reducible first | exact HB.out | apply below_alloc | apply pw_below_drewN | apply below_drew1 | refine below_set ?_ GE153.out) | exact HB.out))⟩; clear BK153 HB hq_; have BK153 := n0_; have HB := n1_; clear n0_ n1_)); have hcz68_0 : w67.cell? ⟨gb153, 0, none⟩ = some (.slice none 0 0) := (blk_cell BK153.out 0).trans rfl; have hcz68_1 : w67.cell? ⟨gb153, 1, none⟩ = some (.slice none 0 0) := (blk_cell BK153.out 1).trans rfl; have hcz68_2 : w67.cell? ⟨gb153, 2, none⟩ = some (.slice none 0 0) := (blk_cell BK153.out 2).trans rfl; have hcz68_3 : w67.cell? ⟨gb153, 3, none⟩ = some (.slice none 0 0) := (blk_cell BK153.out 3).trans rfl; have hfz68_0 := blk_frozen BK153.out 0; have hfz68_1 := blk_frozen BK153.out 1; have hfz68_2 := blk_frozen BK153.out 2; have hfz68_3 := blk_frozen BK153.out 3))
    refine bodyPost_ret (results_ct rfl _ _ gb153 38 #[.slice none 0 0, .slice none 0 0, .slice none 0 0, .slice none 0 0] (0, 0) _ rfl (by (with_reducible repeat (first | refine blk_drewN ?_ _ | refine blk_drew ?_ | refine blk_alloc ?_ _)); refine blk_put (cs := #[.slice none 0 0, .slice none 0 0, .slice none 0 0, .slice none 0 0]) ?_ 3 _ rfl; (with_reducible repeat (first | refine blk_drewN ?_ _ | refine blk_drew ?_ | refine blk_alloc ?_ _)); refine blk_put (cs := #[.slice none 0 0, .slice none 0 0, .slice none 0 0, .slice none 0 0]) ?_ 2 _ rfl; (with_reducible repeat (first | refine blk_drewN ?_ _ | refine blk_drew ?_ | refine blk_alloc ?_ _)); refine blk_put (cs := #[.slice none 0 0, .slice none 0 0, .slice none 0 0, .slice none 0 0]) ?_ 1 _ rfl; (with_reducible repeat (first | refine blk_drewN ?_ _ | refine blk_drew ?_ | refine blk_alloc ?_ _)); refine blk_put (cs := #[.slice none 0 0, .slice none 0 0, .slice none 0 0, .slice none 0 0]) ?_ 0 _ rfl; (with_reducible repeat (first | refine blk_drewN ?_ _ | refine blk_drew ?_ | refine blk_alloc ?_ _)); exact BK153.out) Try.underlying38 rfl (by kernel_rfl)) rfl ?_
    exact ⟨_, _, _, _, by first | rfl | (simp [errW_none, errW_some] <;> rfl) | (simp [*, errW_none, errW_some] <;> rfl), by first | exact Kd.R_nil _ _ _ _ _ | exact Kd.N_nil _ _ _ _ _ | exact Kd.V_nil _ _ _ _ _ | exact Kd.Q_nil _ _ _ _ _ | exact Kd.S_nil _ _ _ _ _, by first | exact Kd.R_nil _ _ _ _ _ | exact Kd.N_nil _ _ _ _ _ | exact Kd.V_nil _ _ _ _ _ | exact Kd.Q_nil _ _ _ _ _ | exact Kd.S_nil _ _ _ _ _, by first | exact Kd.R_nil _ _ _ _ _ | exact Kd.N_nil _ _ _ _ _ | exact Kd.V_nil _ _ _ _ _ | exact Kd.Q_nil _ _ _ _ _ | exact Kd.S_nil _ _ _ _ _, by first | exact Kd.R_nil _ _ _ _ _ | exact Kd.N_nil _ _ _ _ _ | exact Kd.V_nil _ _ _ _ _ | exact Kd.Q_nil _ _ _ _ _ | exact Kd.S_nil _ _ _ _ _, by repeat (first | (with_reducible first | exact HB.out | apply below_alloc | apply pw_below_drewN | apply below_drew1 | refine below_set ?_ GE153.out) | exact HB.out)⟩

end Go.Proofs.Ytbhcchcjmgfpiaa.Print
