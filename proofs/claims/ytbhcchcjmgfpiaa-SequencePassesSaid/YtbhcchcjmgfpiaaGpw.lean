/- SequencePasses: the law answers true for every input. By hand. -/
import Derived.Test.YtbhcchcjmgfpiaaGzc
import Derived.Test.YtbhcchcjmgfpiaaPrint13
import Derived.Test.YtbhcchcjmgfpiaaPrint19
import Derived.Test.YtbhcchcjmgfpiaaPrint22
import Derived.Test.YtbhcchcjmgfpiaaPrint23
import Derived.Test.YtbhcchcjmgfpiaaGf
import Derived.Test.YtbhcchcjmgfpiaaGd
import Derived.Test.YtbhcchcjmgfpiaaGe
import Derived.Test.YtbhcchcjmgfpiaaGs
import Derived.Test.YtbhcchcjmgfpiaaGw
import Derived.Deep.DeepMust
namespace Go.Proofs.Ytbhcchcjmgfpiaa.Print
open Go.RowKit Go.Proofs.YtbhcchcjmgfpiaaW.PrintWords Go.Proofs.YtbhcchcjmgfpiaaW.PrintLast Go.Proofs.YtbhcchcjmgfpiaaW.PrintMore
set_option linter.unusedVariables false
set_option linter.unusedSimpArgs false

theorem row_get {α : Type} {d : Kd α} {e : Nat} {w : World} {base : Nat} {ok : Nat → Prop} {v : Value} {xs : List α} (h : d.R e w base ok v xs) : ∃ A c, v = .slice A xs.length c ∧ xs.length ≤ c ∧ d.C w A xs.length xs := by
  obtain ⟨A, c, rfl⟩ := Kd.R_slice h
  exact ⟨A, c, rfl, (Kd.R_reads' h).2.1, (Kd.R_reads' h).2.2⟩
theorem rd_upTo {n k : Nat} (h : k < n) : rd (upTo n) (k : Int) = (k : Int) := by simp [rd, upTo, List.getD_eq_getElem?_getD, h]
theorem rd_mem {l : List Int} {j : Int} (h0 : 0 ≤ j) (h1 : j < l.length) : rd l j ∈ l := by
  rw [rd, List.getD_eq_getElem?_getD, List.getElem?_eq_getElem (show j.toNat < l.length by omega)]
  exact List.getElem_mem _
theorem flat_take_r (r : List (List Int)) (i : Nat) (h : i < r.length) : (r.take (i + 1)).flatten = (r.take i).flatten ++ rd_L4 r (i : Int) := by
  rw [List.take_add_one, List.flatten_append, List.getElem?_eq_getElem h, rd_L4_get r i h]
  simp
theorem row_mem_flat (r : List (List Int)) (k : Nat) (h : k < r.length) (i : Int) (hi : i ∈ rd_L4 r (k : Int)) : i ∈ r.flatten := by
  rw [rd_L4_get r k h] at hi
  exact List.mem_flatten.2 ⟨_, List.getElem_mem h, hi⟩
theorem take_rd {l : List Int} {i : Nat} (h : i < l.length) : l.take (i + 1) = l.take i ++ [rd l (i : Int)] := by
  rw [List.take_add_one, List.getElem?_eq_getElem h]
  simp [rd, List.getD_eq_getElem?_getD, h]
theorem passRows_snoc (n : Nat) (key : Int → Int) (ord : List Int) (i : Int) : passRows n key (ord ++ [i]) = (passRows n key ord).set (key i).toNat (rd_L4 (passRows n key ord) (key i) ++ [i]) := by
  unfold passRows
  rw [List.foldl_append]
  rfl
theorem flat_le (r : List (List Int)) (i : Nat) : (r.take i).flatten.length ≤ r.flatten.length := by
  conv => rhs; rw [← List.take_append_drop i r, List.flatten_append]
  simp
theorem lists_l0 (r : List (List Int)) (n M : Nat) (hr : r.length ≤ n) (hM : ∀ i : Nat, (rd_L4 r (i : Int)).length ≤ M) (hb : n ≤ 100000 ∧ M ≤ 100000) : ∀ (d i k : Nat), i + d = r.length → d + M < k → letterbaglaw28_lists.l0 k r r (i : Int) = some true
  | 0, i, k, h, hk => by
    obtain ⟨k, rfl⟩ : ∃ j, k = j + 1 := ⟨k - 1, by omega⟩
    rw [letterbaglaw28_lists.l0, if_neg (by omega)]
  | d + 1, i, k, h, hk => by
    obtain ⟨k, rfl⟩ : ∃ j, k = j + 1 := ⟨k - 1, by omega⟩
    have hi := hM i
    rw [letterbaglaw28_lists.l0, if_pos (by omega), if_pos (by omega), if_pos (by omega), same_f _ (by omega) k (by omega), Option.bind_some, if_pos rfl, wsm _ (by omega) (by omega)]
    exact lists_l0 r n M hr hM hb d (i + 1) k (by omega) (by omega)
theorem lists_f (r : List (List Int)) (n M : Nat) (hr : r.length ≤ n) (hM : ∀ i : Nat, (rd_L4 r (i : Int)).length ≤ M) (hb : n ≤ 100000 ∧ M ≤ 100000) (k : Nat) (hk : n + M < k) : letterbaglaw28_lists.f k r r = some true := by
  unfold letterbaglaw28_lists.f
  rw [if_pos rfl]
  exact lists_l0 r n M hr hM hb r.length 0 k (by omega) (by omega)
set_option maxHeartbeats 16000000 in
set_option maxRecDepth 100000 in
theorem passes_calls (A0 : Option Addr) (c0 : Nat) (l0 : List Int) (A1 : Option Addr) (c1 : Nat) (l1 : List Int) (A2 : Option Addr) (c2 : Nat) (l2 : List Int) (w : World)
    (hr0 : Kd.C (Kd.int .u8) w A0 l0.length l0) (hc0 : l0.length ≤ c0) (hr1 : Kd.C (Kd.int .u8) w A1 l1.length l1) (hc1 : l1.length ≤ c1) (hr2 : Kd.C (Kd.int .u8) w A2 l2.length l2) (hc2 : l2.length ≤ c2)
    (w0 : ∀ x ∈ l0, (Lit.int .u8 x).wf = true) (w1 : ∀ x ∈ l1, (Lit.int .u8 x).wf = true) (w2 : ∀ x ∈ l2, (Lit.int .u8 x).wf = true) (n0 : l0.length ≤ 9223372036854775807) (n1 : l1.length ≤ 9223372036854775807) :
    Calls Try.prog 10 #[.slice A0 l0.length c0, .slice A1 l1.length c1, .slice A2 l2.length c2] w fun e w' => e = .returned (.bool true) ∧ Below w.heap.size w w' := by
  have hv := rd_u8 l0 w0
  have hc := rd_u8 l1 w1
  have hf := law_fit l0 l1 hv hc
  have hrt := route_f l0 hv n0 10000 (by omega)
  have hmc := machine_f' l1 hc n1 10000 (by omega)
  have HRT := Aside0.mk hrt
  have HMC := Aside0.mk hmc
  have HR0 := Aside0.mk hr0
  have HR1 := Aside0.mk hr1
  have HR2 := Aside0.mk hr2
  have HF := Aside0.mk hf
  have HV := Aside0.mk hv
  have HW0 := Aside0.mk w0
  have HW1 := Aside0.mk w1
  have HW2 := Aside0.mk w2
  have hcl := machL_ok l1 hc
  have hsl := routeL_len l0
  have HCL := Aside0.mk hcl
  have HSL := Aside0.mk hsl
  have hb1 := hcl.1
  have hb2 := hcl.2.1
  clear hrt hmc hr0 hr1 hr2 hv hc w0 w1 w2 hcl hsl
  have hu60 := Try.underlying60
  have hu38 := Try.underlying38
  have hu50 := Try.underlying50
  rcases law_make (routeL l0) (machL l1) hf with hmk | ⟨m, hm, hp, hmk⟩
  · have HMK := Aside0.mk hmk
    clear hmk hf
    go_enter Try.func10, Try.ntmps10
    go_wp2_with (first
      | ((with_reducible refine gate_dst (N := 26) rfl ?_); go_must (refine goesL_ (some 26) rfl rfl Try.func18 (by kernel_rfl) rfl #[] rfl (by (try simp only [List.map_toArray, List.map_cons, List.map_nil]); first | done | rfl) ?_; refine (letterbaglaw28_awake.calls true w rfl).mono ?_)
         rintro e w6 ⟨rfl, hb⟩
         refine ⟨_, rfl, ?_⟩
         have HB6 := Aside0.mk hb
         clear hb)
      | ((with_reducible refine gate_dst (N := 29) rfl ?_); go_must (refine goesL_ (some 29) rfl rfl Try.func19 (by kernel_rfl) rfl #[.slice A0 l0.length c0, .int .i64 9] rfl (by (try simp only [List.map_toArray, List.map_cons, List.map_nil]); first | done | rfl) ?_; refine (letterbaglaw28_route.calls 10000 A0 c0 l0 9 (routeL l0) w6 (Kd.C_below HR0.out HB6.out) hc0 HRT.out).mono ?_)
         rintro e w7 ⟨v0, rfl, ho, hb⟩
         obtain ⟨A7, c7, rfl, hc7, hC7⟩ := row_get ho
         refine ⟨_, rfl, ?_⟩
         have HB7 := Aside0.mk (below_then HB6.out HB6.out.size hb)
         have HC7 := Aside0.mk hC7
         clear hb ho hC7)
      | ((with_reducible refine gate_dst (N := 31) rfl ?_); go_must (refine goesL_ (some 31) rfl rfl Try.func20 (by kernel_rfl) rfl #[.slice A1 l1.length c1] rfl (by (try simp only [List.map_toArray, List.map_cons, List.map_nil]); first | done | rfl) ?_; refine (letterbaglaw28_machine.calls 10000 A1 c1 l1 (machL l1) w7 (Kd.C_below HR1.out HB7.out) hc1 HMC.out).mono ?_)
         rintro e w8 ⟨v0, rfl, ho, hb⟩
         obtain ⟨A8, c8, rfl, hc8, hC8⟩ := row_get ho
         refine ⟨_, rfl, ?_⟩
         have HB8 := Aside0.mk (below_then HB7.out HB7.out.size hb)
         have HR7 := Aside0.mk (Kd.C_below HC7.out hb)
         have HR8 := Aside0.mk hC8
         clear hb ho hC8)
      | ((with_reducible refine gate_dst (N := 35) rfl ?_); go_must (refine goesL_ (some 35) rfl rfl Try.func16 (by kernel_rfl) rfl #[.slice A7 (routeL l0).length c7, .slice A8 (machL l1).length c8] rfl (by (try simp only [List.map_toArray, List.map_cons, List.map_nil]); first | done | rfl) ?_; refine (sequence_Make.calls A7 c7 (routeL l0) A8 c8 (machL l1) [] [] [] [] 4 w8 HR7.out hc7 HR8.out hc8 HMK.out).mono ?_)
         rintro e w9 ⟨v0, v1, v2, v3, rfl, ho0, ho1, ho2, ho3, hb⟩
         obtain ⟨E0, z0, rfl⟩ := Kd.R_slice ho0
         obtain ⟨E1, z1, rfl⟩ := Kd.R_slice ho1
         obtain ⟨E2, z2, rfl⟩ := Kd.R_slice ho2
         obtain ⟨E3, z3, rfl⟩ := Kd.R_slice ho3
         refine ⟨_, rfl, ?_⟩
         have HB9 := Aside0.mk (below_then HB8.out HB8.out.size hb)
         clear hb ho0 ho1 ho2 ho3)
      | go_in)
    go_ret
    exact ⟨rfl, HB9.out.alloc HB9.out.size _⟩
  · obtain ⟨hfe, hit, hlen, _⟩ := law_run l0 l1 l2 HW0.out HW1.out HW2.out m hm hp
    have hcnt := (feedL_ok (routeL l0) (routeL_nodup l0) (fun x hx => (routeL_mem l0 HV.out x hx).2.2.1) l2 (fun q hq => by
      have := List.all_eq_true.1 (all_u8 l2 HW2.out) q hq
      simp only [isU8, Bool.and_eq_true, decide_eq_true_eq] at this
      exact this.1)).1
    obtain ⟨hs, hr, hfind⟩ := run_sort (routeL l0) (machL l1) hf m hm hp (routeL_nodup l0) (law_wf l0 HV.out) (feedL (routeL l0) l2) hit hcnt hlen
    have HFE := Aside0.mk hfe
    generalize feedL (routeL l0) l2 = items at hs hr hfind hlen HFE
    have HMK := Aside0.mk hmk
    have HSRT := Aside0.mk hs
    have HRUN := Aside0.mk hr
    have HFIND := Aside0.mk hfind
    have hF := loadsF_len (machL l1).length (seatL (machL l1) m 0 0 0 (routeL l0))
    have hS := loadsS_len (machL l1).length (seatL (machL l1) m 0 0 0 (routeL l0))
    have hN := (loads_caps (routeL l0) (machL l1) hf m hm hp).1
    generalize seatL (machL l1) m 0 0 0 (routeL l0) = seats at HMK HSRT HRUN HFIND hF hS hN
    have hl1 : (firstRows (machL l1).length seats items).length = (machL l1).length := passRows_len _ _ _
    have hl2 : (secondRows (machL l1).length seats items).length = (machL l1).length := passRows_len _ _ _
    generalize loadsF (machL l1).length seats = F at *
    generalize loadsS (machL l1).length seats = S at *
    obtain ⟨r1, hr1⟩ : ∃ y, y = firstRows (machL l1).length seats items := ⟨_, rfl⟩
    obtain ⟨r2, hr2⟩ : ∃ y, y = secondRows (machL l1).length seats items := ⟨_, rfl⟩
    rw [← hr1] at hl1 HSRT HRUN
    rw [← hr2] at hl2 HSRT HRUN
    obtain ⟨ord, hord⟩ : ∃ y, y = r2.flatten := ⟨_, rfl⟩
    rw [← hord] at HSRT HRUN
    have HR1E := Aside0.mk hr1
    have HR2E := Aside0.mk hr2
    have HORD := Aside0.mk hord
    have HL1 := Aside0.mk hl1
    have HL2 := Aside0.mk hl2
    clear hs hr hfind hfe hmk hf hF hS hN hit hcnt hr1 hr2 hord hl1 hl2
    go_enter Try.func10, Try.ntmps10
    go_upto_region 11 with (first
      | ((with_reducible refine gate_dst (N := 26) rfl ?_); go_must (refine goesL_ (some 26) rfl rfl Try.func18 (by kernel_rfl) rfl #[] rfl (by (try simp only [List.map_toArray, List.map_cons, List.map_nil]); first | done | rfl) ?_; refine (letterbaglaw28_awake.calls true w rfl).mono ?_)
         rintro e w6 ⟨rfl, hb⟩
         refine ⟨_, rfl, ?_⟩
         have HB6 := Aside0.mk hb
         clear hb)
      | ((with_reducible refine gate_dst (N := 29) rfl ?_); go_must (refine goesL_ (some 29) rfl rfl Try.func19 (by kernel_rfl) rfl #[.slice A0 l0.length c0, .int .i64 9] rfl (by (try simp only [List.map_toArray, List.map_cons, List.map_nil]); first | done | rfl) ?_; refine (letterbaglaw28_route.calls 10000 A0 c0 l0 9 (routeL l0) w6 (Kd.C_below HR0.out HB6.out) hc0 HRT.out).mono ?_)
         rintro e w7 ⟨v0, rfl, ho, hb⟩
         obtain ⟨A7, c7, rfl, hc7, hC7⟩ := row_get ho
         refine ⟨_, rfl, ?_⟩
         have HB7 := Aside0.mk (below_then HB6.out HB6.out.size hb)
         have HC7 := Aside0.mk hC7
         clear hb ho hC7)
      | ((with_reducible refine gate_dst (N := 31) rfl ?_); go_must (refine goesL_ (some 31) rfl rfl Try.func20 (by kernel_rfl) rfl #[.slice A1 l1.length c1] rfl (by (try simp only [List.map_toArray, List.map_cons, List.map_nil]); first | done | rfl) ?_; refine (letterbaglaw28_machine.calls 10000 A1 c1 l1 (machL l1) w7 (Kd.C_below HR1.out HB7.out) hc1 HMC.out).mono ?_)
         rintro e w8 ⟨v0, rfl, ho, hb⟩
         obtain ⟨A8, c8, rfl, hc8, hC8⟩ := row_get ho
         refine ⟨_, rfl, ?_⟩
         have HB8 := Aside0.mk (below_then HB7.out HB7.out.size hb)
         have HR7 := Aside0.mk (Kd.C_below HC7.out hb)
         have HR8 := Aside0.mk hC8
         clear hb ho hC8)
      | ((with_reducible refine gate_dst (N := 35) rfl ?_); go_must (refine goesL_ (some 35) rfl rfl Try.func16 (by kernel_rfl) rfl #[.slice A7 (routeL l0).length c7, .slice A8 (machL l1).length c8] rfl (by (try simp only [List.map_toArray, List.map_cons, List.map_nil]); first | done | rfl) ?_; refine (sequence_Make.calls A7 c7 (routeL l0) A8 c8 (machL l1) (machL l1) seats F S 0 w8 HR7.out hc7 HR8.out hc8 HMK.out).mono ?_)
         rintro e w9 ⟨v0, v1, v2, v3, rfl, ho0, ho1, ho2, ho3, hb⟩
         obtain ⟨P0, k0, rfl, hk0, hP0⟩ := row_get ho0
         obtain ⟨P1, k1, rfl, hk1, hP1⟩ := row_get ho1
         obtain ⟨P2, k2, rfl, hk2, hP2⟩ := row_get ho2
         obtain ⟨P3, k3, rfl, hk3, hP3⟩ := row_get ho3
         refine ⟨_, rfl, ?_⟩
         have HB9 := Aside0.mk (below_then HB8.out HB8.out.size hb)
         replace HR7 := Aside0.mk (Kd.C_below HR7.out hb)
         replace HR8 := Aside0.mk (Kd.C_below HR8.out hb)
         have HP0 := Aside0.mk hP0
         have HP1 := Aside0.mk hP1
         have HP2 := Aside0.mk hP2
         have HP3 := Aside0.mk hP3
         clear hb ho0 ho1 ho2 ho3 hP0 hP1 hP2 hP3)
      | ((with_reducible refine gate_dst (N := 44) rfl ?_); go_must (refine goesL_ (some 44) rfl rfl Try.func22 (by kernel_rfl) rfl #[.slice A7 (routeL l0).length c7, .slice A2 l2.length c2] rfl (by (try simp only [List.map_toArray, List.map_cons, List.map_nil]); first | done | rfl) ?_; refine (letterbaglaw28_feed.calls A7 c7 (routeL l0) A2 c2 l2 items (w9.alloc (.cells #[.slice P0 (machL l1).length k0, .slice P1 seats.length k1, .slice P2 F.length k2, .slice P3 S.length k3] 38)) (Kd.C_alloc HR7.out _) hc7 (Kd.C_below HR2.out (HB9.out.alloc HB9.out.size _)) hc2 HFE.out).mono ?_)
         rintro e w10 ⟨v0, rfl, ho, hb⟩
         obtain ⟨AI, cI, rfl, hcI, hCI⟩ := row_get ho
         refine ⟨_, rfl, ?_⟩
         have hbx : Below w9.heap.size w9 w10 := below_step ((Below.refl _ _).alloc (Nat.le_refl _) (.cells #[.slice P0 (machL l1).length k0, .slice P1 seats.length k1, .slice P2 F.length k2, .slice P3 S.length k3] 38)) hb
         have HPB := Aside0.mk (blk_below (blk_new w9 (.cells #[.slice P0 (machL l1).length k0, .slice P1 seats.length k1, .slice P2 F.length k2, .slice P3 S.length k3] 38)) hb)
         have HB10 := Aside0.mk (below_then HB9.out HB9.out.size hbx)
         replace HR7 := Aside0.mk (Kd.C_below HR7.out hbx)
         replace HR8 := Aside0.mk (Kd.C_below HR8.out hbx)
         replace HP0 := Aside0.mk (Kd.C_below HP0.out hbx)
         replace HP1 := Aside0.mk (Kd.C_below HP1.out hbx)
         replace HP2 := Aside0.mk (Kd.C_below HP2.out hbx)
         replace HP3 := Aside0.mk (Kd.C_below HP3.out hbx)
         have HI := Aside0.mk hCI
         have pc0 : w10.cell? ⟨w9.heap.size, 0, none⟩ = some (.slice P0 (machL l1).length k0) := (blk_cell HPB.out 0).trans rfl
         have pc1 : w10.cell? ⟨w9.heap.size, 1, none⟩ = some (.slice P1 seats.length k1) := (blk_cell HPB.out 1).trans rfl
         have pc2 : w10.cell? ⟨w9.heap.size, 2, none⟩ = some (.slice P2 F.length k2) := (blk_cell HPB.out 2).trans rfl
         have pc3 : w10.cell? ⟨w9.heap.size, 3, none⟩ = some (.slice P3 S.length k3) := (blk_cell HPB.out 3).trans rfl
         clear hb hbx ho hCI)
      | ((with_reducible refine gate_dst (N := 48) rfl ?_); go_must (refine goesL_ (some 48) rfl rfl Try.func23 (by kernel_rfl) rfl #[.agg #[.slice P0 (machL l1).length k0, .slice P1 seats.length k1, .slice P2 F.length k2, .slice P3 S.length k3], .slice AI items.length cI] rfl (by (try simp only [List.map_toArray, List.map_cons, List.map_nil]); first | done | rfl) ?_; refine (sequence_Sort.calls P0 k0 (machL l1) P1 k1 seats P2 k2 F P3 k3 S AI cI items r1 r2 ord 0 w10 HP0.out hk0 HP1.out hk1 HP2.out hk2 HP3.out hk3 HI.out hcI HSRT.out).mono ?_)
         rintro e w11 ⟨v0, v1, v2, rfl, ho0, ho1, ho2, hb⟩
         obtain ⟨R0, j0, e0, hj0, hR0⟩ := row_get (Kd.S_R ho0)
         obtain ⟨R1, j1, e1, hj1, hR1⟩ := row_get (Kd.S_R ho1)
         obtain ⟨R2, j2, e2, hj2, hR2⟩ := row_get ho2
         rw [HL1.out] at e0 hj0
         rw [HL2.out] at e1 hj1
         subst e0
         subst e1
         subst e2
         refine ⟨_, rfl, ?_⟩
         have HB11 := Aside0.mk (below_then HB10.out HB10.out.size hb)
         replace HR7 := Aside0.mk (Kd.C_below HR7.out hb)
         replace HR8 := Aside0.mk (Kd.C_below HR8.out hb)
         replace HP0 := Aside0.mk (Kd.C_below HP0.out hb)
         replace HP1 := Aside0.mk (Kd.C_below HP1.out hb)
         replace HP2 := Aside0.mk (Kd.C_below HP2.out hb)
         replace HP3 := Aside0.mk (Kd.C_below HP3.out hb)
         replace HI := Aside0.mk (Kd.C_below HI.out hb)
         replace HPB := Aside0.mk (blk_below HPB.out hb)
         have HC0 := Aside0.mk hR0
         have HC1 := Aside0.mk hR1
         have HC2 := Aside0.mk hR2
         clear hb ho0 ho1 ho2 hR0 hR1 hR2 pc0 pc1 pc2 pc3)
      | go_in)
    generalize hW12 : w11.alloc (.cells #[.slice R0 (machL l1).length j0, .slice R1 (machL l1).length j1, .slice R2 ord.length j2] 50) = W12
    have HB12 := Aside0.mk (show Below w.heap.size w W12 by rw [← hW12]; exact HB11.out.alloc HB11.out.size _)
    have hb12 : Below w11.heap.size w11 W12 := by rw [← hW12]; exact (Below.refl _ _).alloc (Nat.le_refl _) _
    have HRB := Aside0.mk (show W12.heap[w11.heap.size]? = some (.cells #[.slice R0 (machL l1).length j0, .slice R1 (machL l1).length j1, .slice R2 ord.length j2] 50 (0, 0)) by rw [← hW12]; exact blk_new _ _)
    replace HR7 := Aside0.mk (Kd.C_below HR7.out hb12)
    replace HR8 := Aside0.mk (Kd.C_below HR8.out hb12)
    replace HP0 := Aside0.mk (Kd.C_below HP0.out hb12)
    replace HP1 := Aside0.mk (Kd.C_below HP1.out hb12)
    replace HP2 := Aside0.mk (Kd.C_below HP2.out hb12)
    replace HP3 := Aside0.mk (Kd.C_below HP3.out hb12)
    replace HI := Aside0.mk (Kd.C_below HI.out hb12)
    replace HPB := Aside0.mk (blk_below HPB.out hb12)
    replace HC0 := Aside0.mk (Kd.C_below HC0.out hb12)
    replace HC1 := Aside0.mk (Kd.C_below HC1.out hb12)
    replace HC2 := Aside0.mk (Kd.C_below HC2.out hb12)
    clear hW12 hb12
    generalize w11.heap.size = gr at HRB ⊢
    generalize w9.heap.size = gp at HPB ⊢
    go_cut [13, 14] from 69 to 76 (fun v13 v14 wc => Aside0 (Kd.S (Kd.slice 3 (Kd.int .i64)) 24 wc W12.heap.size (fun k => some k = v13.ownBlock) v13 (List.replicate (machL l1).length [])) ∧ Aside0 (Kd.S (Kd.slice 3 (Kd.int .i64)) 24 wc W12.heap.size (fun k => some k = v14.ownBlock) v14 (List.replicate (machL l1).length [])) ∧ Aside0 (Below W12.heap.size W12 wc) ∧ Aside0 (v13.ownBlock ≠ v14.ownBlock))
    case first =>
      refine start_ (n := 8) (S := fun w' => Below W12.heap.size W12 w') (ds := []) #[false, false, false, false, false, false, false, false] (by kernel_rfl) rfl rfl (below_drew1 (Below.refl _ _)) (fun hHeld => ?_)
      generalize W12.drew = wd at hHeld ⊢
      refine pure_ (i := 0) (N := some 69) (v := ?_) (a' := ?_) #[true, false, false, false, false, false, false, false] rfl rfl (by kernel_rfl) (fun _ _ _ h => h) (Or.inl ⟨by rfl, ?_⟩) ?_ ?_
      rotate_left
      · intro w'
        go_simp
        with_reducible rfl
      rotate_left
      · simp only [Act.put, List.setIfInBounds_toArray, List.set_cons_zero, List.set_cons_succ, i64_w, i32_w]
        rfl
      refine pure_ (i := 1) (N := some 70) (v := ?_) (a' := ?_) #[true, true, false, false, false, false, false, false] rfl rfl (by kernel_rfl) (fun _ _ _ h => h) (Or.inl ⟨by rfl, ?_⟩) ?_ ?_
      rotate_left
      · intro w'
        go_simp
        with_reducible rfl
      rotate_left
      · simp only [Act.put, List.setIfInBounds_toArray, List.set_cons_zero, List.set_cons_succ, i64_w, i32_w]
        rfl
      refine pure_ (i := 3) (N := some 72) (v := ?_) (a' := ?_) #[true, true, false, true, false, false, false, false] rfl rfl (by kernel_rfl) (fun _ _ _ h => h) (Or.inl ⟨by rfl, ?_⟩) ?_ ?_
      rotate_left
      · intro w'
        go_simp
        with_reducible rfl
      rotate_left
      · simp only [Act.put, List.setIfInBounds_toArray, List.set_cons_zero, List.set_cons_succ, i64_w, i32_w]
        rfl
      refine pure_ (i := 4) (N := some 73) (v := ?_) (a' := ?_) #[true, true, false, true, true, false, false, false] rfl rfl (by kernel_rfl) (fun _ _ _ h => h) (Or.inl ⟨by rfl, ?_⟩) ?_ ?_
      rotate_left
      · intro w'
        go_simp
        with_reducible rfl
      rotate_left
      · simp only [Act.put, List.setIfInBounds_toArray, List.set_cons_zero, List.set_cons_succ, i64_w, i32_w]
        rfl
      refine two_ (i := 2) (j := 5) (Ni := some 71) (Nj := some 74) #[true, true, true, true, true, false, false, false] #[true, true, false, true, true, true, false, false] rfl rfl rfl rfl (by kernel_rfl) (by decide) (by decide) (fun K hK => ?_) (fun K hK => ?_)
      · refine Kd.S_make_step (Kd.slice 3 (Kd.int .i64)) (w0 := W12) W12.heap.size 24 (by rfl) (N := 71) rfl 48 (.tmp 70) (.tmp 70) rfl ((machL l1).length : Int) rfl rfl Try.underlying48 (.slice none 0 0) 24 info24 rfl (by decide) (by decide) [] (okp := fun _ => False) (ok := fun k => k = wd.heap.size) ⟨.slice none 0 0, rfl, Kd.R_nil _ _ _ _ _⟩ (fun _ hk => hk.elim) rfl (by omega) (by omega) hHeld hHeld.size ?_
        intro va wa hsa hba hga hata
        refine hK.out _ _ (hHeld.grown hga hHeld.size (fun k hk => by cases hk)) (fun hHeld2 => ?_)
        clear hK K
        refine norm_ (a' := ?_) ?_ ?_
        rotate_left
        · show Act.put _ (some 71) _ = _
          simp only [Act.put, List.setIfInBounds_toArray, List.set_cons_zero, List.set_cons_succ]
          rfl
        refine pure_ (i := 6) (N := some 13) (v := ?_) (a' := ?_) #[true, true, true, true, true, false, true, false] rfl rfl (by kernel_rfl) (fun _ _ _ h => h) (Or.inl ⟨by rfl, ?_⟩) ?_ ?_
        rotate_left
        · intro w'
          go_simp
          with_reducible rfl
        rotate_left
        · simp only [Act.put, List.setIfInBounds_toArray, List.set_cons_zero, List.set_cons_succ, i64_w, i32_w]
          rfl
        refine one_ (i := 5) (N := some 74) #[true, true, true, true, true, true, true, false] rfl rfl (by kernel_rfl) (by decide) (fun K hK => ?_)
        refine Kd.S_make_step (Kd.slice 3 (Kd.int .i64)) (w0 := wa) wa.heap.size 24 (by rfl) (N := 74) rfl 48 (.tmp 73) (.tmp 73) rfl ((machL l1).length : Int) rfl rfl Try.underlying48 (.slice none 0 0) 24 info24 rfl (by decide) (by decide) [] (okp := fun _ => False) (ok := fun k => k = wa.heap.size) ⟨.slice none 0 0, rfl, Kd.R_nil _ _ _ _ _⟩ (fun _ hk => hk.elim) rfl (by omega) (by omega) (Below.refl _ _) (Nat.le_refl _) ?_
        intro vb wb hsb hbb hgb hatb
        refine hK.out _ _ (hHeld2.grown hgb hHeld2.size (fun k hk => by cases hk)) (fun hHeld3 => ?_)
        clear hK K
        refine norm_ (a' := ?_) ?_ ?_
        rotate_left
        · show Act.put _ (some 74) _ = _
          simp only [Act.put, List.setIfInBounds_toArray, List.set_cons_zero, List.set_cons_succ]
          rfl
        refine pure_ (i := 7) (N := some 14) (v := ?_) (a' := ?_) #[true, true, true, true, true, true, true, true] rfl rfl (by kernel_rfl) (fun _ _ _ h => h) (Or.inl ⟨by rfl, ?_⟩) ?_ ?_
        rotate_left
        · intro w'
          go_simp
          with_reducible rfl
        rotate_left
        · simp only [Act.put, List.setIfInBounds_toArray, List.set_cons_zero, List.set_cons_succ, i64_w, i32_w]
          rfl
        refine done_ (by kernel_rfl) ?_
        go_wp2
        go_meet
        have hta : ∀ k, k = wd.heap.size → some k = va.ownBlock := fun k hk => by obtain ⟨b, h1, h2⟩ := hata; have h3 := (Kd.S_R hsa).1 b h1; rw [h1, hk, h3]
        have htb : ∀ k, k = wa.heap.size → some k = vb.ownBlock := fun k hk => by obtain ⟨b, h1, h2⟩ := hatb; have h3 := (Kd.S_R hsb).1 b h1; rw [h1, hk, h3]
        have hnab : va.ownBlock ≠ vb.ownBlock := fun h => by have := Kd.S_lt hsa wa.heap.size (by rw [h]; exact (htb _ rfl).symm); omega
        case rel => exact ⟨⟨Kd.S_mono (Kd.S_grown hsa hgb (fun k hk h => by cases h)) (fun k hk => hta k hk)⟩, ⟨Kd.S_lower (Kd.S_mono hsb (fun k hk => htb k hk)) hHeld2.size⟩, ⟨hHeld3⟩, ⟨hnab⟩⟩
      · refine Kd.S_make_step (Kd.slice 3 (Kd.int .i64)) (w0 := W12) W12.heap.size 24 (by rfl) (N := 74) rfl 48 (.tmp 73) (.tmp 73) rfl ((machL l1).length : Int) rfl rfl Try.underlying48 (.slice none 0 0) 24 info24 rfl (by decide) (by decide) [] (okp := fun _ => False) (ok := fun k => k = wd.heap.size) ⟨.slice none 0 0, rfl, Kd.R_nil _ _ _ _ _⟩ (fun _ hk => hk.elim) rfl (by omega) (by omega) hHeld hHeld.size ?_
        intro va wa hsa hba hga hata
        refine hK.out _ _ (hHeld.grown hga hHeld.size (fun k hk => by cases hk)) (fun hHeld2 => ?_)
        clear hK K
        refine norm_ (a' := ?_) ?_ ?_
        rotate_left
        · show Act.put _ (some 74) _ = _
          simp only [Act.put, List.setIfInBounds_toArray, List.set_cons_zero, List.set_cons_succ]
          rfl
        refine one_ (i := 2) (N := some 71) #[true, true, true, true, true, true, false, false] rfl rfl (by kernel_rfl) (by decide) (fun K hK => ?_)
        refine Kd.S_make_step (Kd.slice 3 (Kd.int .i64)) (w0 := wa) wa.heap.size 24 (by rfl) (N := 71) rfl 48 (.tmp 70) (.tmp 70) rfl ((machL l1).length : Int) rfl rfl Try.underlying48 (.slice none 0 0) 24 info24 rfl (by decide) (by decide) [] (okp := fun _ => False) (ok := fun k => k = wa.heap.size) ⟨.slice none 0 0, rfl, Kd.R_nil _ _ _ _ _⟩ (fun _ hk => hk.elim) rfl (by omega) (by omega) (Below.refl _ _) (Nat.le_refl _) ?_
        intro vb wb hsb hbb hgb hatb
        refine hK.out _ _ (hHeld2.grown hgb hHeld2.size (fun k hk => by cases hk)) (fun hHeld3 => ?_)
        clear hK K
        refine norm_ (a' := ?_) ?_ ?_
        rotate_left
        · show Act.put _ (some 71) _ = _
          simp only [Act.put, List.setIfInBounds_toArray, List.set_cons_zero, List.set_cons_succ]
          rfl
        refine pure_ (i := 6) (N := some 13) (v := ?_) (a' := ?_) #[true, true, true, true, true, true, true, false] rfl rfl (by kernel_rfl) (fun _ _ _ h => h) (Or.inl ⟨by rfl, ?_⟩) ?_ ?_
        rotate_left
        · intro w'
          go_simp
          with_reducible rfl
        rotate_left
        · simp only [Act.put, List.setIfInBounds_toArray, List.set_cons_zero, List.set_cons_succ, i64_w, i32_w]
          rfl
        refine pure_ (i := 7) (N := some 14) (v := ?_) (a' := ?_) #[true, true, true, true, true, true, true, true] rfl rfl (by kernel_rfl) (fun _ _ _ h => h) (Or.inl ⟨by rfl, ?_⟩) ?_ ?_
        rotate_left
        · intro w'
          go_simp
          with_reducible rfl
        rotate_left
        · simp only [Act.put, List.setIfInBounds_toArray, List.set_cons_zero, List.set_cons_succ, i64_w, i32_w]
          rfl
        refine done_ (by kernel_rfl) ?_
        go_wp2
        go_meet
        have hta : ∀ k, k = wd.heap.size → some k = va.ownBlock := fun k hk => by obtain ⟨b, h1, h2⟩ := hata; have h3 := (Kd.S_R hsa).1 b h1; rw [h1, hk, h3]
        have htb : ∀ k, k = wa.heap.size → some k = vb.ownBlock := fun k hk => by obtain ⟨b, h1, h2⟩ := hatb; have h3 := (Kd.S_R hsb).1 b h1; rw [h1, hk, h3]
        have hnab : va.ownBlock ≠ vb.ownBlock := fun h => by have := Kd.S_lt hsa wa.heap.size (by rw [h]; exact (htb _ rfl).symm); omega
        case rel => exact ⟨⟨Kd.S_lower (Kd.S_mono hsb (fun k hk => htb k hk)) hHeld2.size⟩, ⟨Kd.S_mono (Kd.S_grown hsa hgb (fun k hk h => by cases h)) (fun k hk => hta k hk)⟩, ⟨hHeld3⟩, ⟨hnab.symm⟩⟩
    case rest =>
      obtain ⟨hcS, hcT, hcB, hcne⟩ := hcut
      obtain ⟨g1, cap1, rfl, hg1b, hg1l, hg1c⟩ := Kd.S_form hcS.out (by simpa using hb1)
      obtain ⟨g2, cap2, rfl, hg2b, hg2l, hg2c⟩ := Kd.S_form hcT.out (by simpa using hb1)
      simp only [List.length_replicate] at *
      have hne12 : g1 ≠ g2 := fun h => hcne.out (by rw [h]; rfl)
      have HS0 := Aside0.mk (Kd.S_mono hcS.out (ok' := fun k => k = g1 ∨ wc.heap.size ≤ k) (fun k hk => .inl (by injection hk)))
      have HT0 := Aside0.mk (Kd.S_mono hcT.out (ok' := fun k => k = g2) (fun k hk => by injection hk))
      have HB0 := Aside0.mk hcB.out
      have HG0 := Aside0.mk (Below.refl wc.heap.size wc)
      have hcs := hcB.out.size
      clear hcS hcT hcB hcne hg1c hg2c
      go_wp2
      go_loopw [77] (fun i wr => ∃ k : Nat, k ≤ items.length ∧ i = .int .i64 k ∧ Aside0 (Kd.S (Kd.slice 3 (Kd.int .i64)) 24 wr W12.heap.size (fun k => k = g1 ∨ wc.heap.size ≤ k) (.slice (some ⟨g1, 0, none⟩) (machL l1).length cap1) (passRows (machL l1).length (keyFirst seats items) ((upTo items.length).take k))) ∧
          Aside0 (Kd.S (Kd.slice 3 (Kd.int .i64)) 24 wr W12.heap.size (fun k => k = g2) (.slice (some ⟨g2, 0, none⟩) (machL l1).length cap2) (List.replicate (machL l1).length [])) ∧ Aside0 (Below W12.heap.size W12 wr) ∧ wc.heap.size ≤ wr.heap.size)
        (fun i _ => items.length - (intOf i).toNat)
      case atStart => exact ⟨0, Nat.zero_le _, rfl, HS0, HT0, HB0, Nat.le_refl _⟩
      case round =>
        clear HS0 HT0 HB0 HG0
        obtain ⟨k, hk, rfl, HS, HT, HB, hgr⟩ := hrel
        by_cases hlt : k < items.length
        · have hrow := passRows_take (machL l1).length (keyFirst seats items) (upTo items.length) k (by rw [upTo_len]; exact hlt)
          rw [rd_upTo hlt] at hrow
          obtain ⟨ad, rfl, hxi⟩ := Kd.at_int (Kd.C_below HI.out HB.out) (k : Int) (by omega) (by omega)
          simp only [Int.toNat_natCast] at hxi
          obtain ⟨x, hfx, hpx, hx0, hq0, hq1, hq2, hq3⟩ := HFIND.out (rd items (k : Int)) (rd_mem (by omega) (by omega))
          have hkx : keyFirst seats items (k : Int) = x.f2 := by unfold keyFirst; rw [hpx]
          obtain ⟨q, hq⟩ : ∃ y, y = x.f2 := ⟨_, rfl⟩
          rw [hkx, ← hq] at hrow
          have HQ := Aside0.mk hq
          have hfind : sequence_Find.f (machL l1) seats F S (rd items (k : Int)) = some (x.f0, x.f1, x.f2, x.f3, true) := by unfold sequence_Find.f; rw [hfx]
          generalize rd items (k : Int) = id at hxi hfind hx0 hfx hpx
          have HFD := Aside0.mk hfind
          have hidx : x.f0 = id := hx0
          obtain ⟨rows, hrs⟩ : ∃ y, y = passRows (machL l1).length (keyFirst seats items) ((upTo items.length).take k) := ⟨_, rfl⟩
          obtain ⟨rows', hrs'⟩ : ∃ y, y = passRows (machL l1).length (keyFirst seats items) ((upTo items.length).take (k + 1)) := ⟨_, rfl⟩
          have hlr : (rd_L4 rows q).length ≤ 2000 := by rw [hrs]; refine Nat.le_trans (passRows_row_le _ _ _ _) ?_; rw [List.length_take]; omega
          have hrl : rows.length = (machL l1).length := by rw [hrs]; exact passRows_len _ _ _
          rw [← hrs] at HS hrow
          rw [← hrs'] at hrow
          have HROW := Aside0.mk hrow
          have HRS' := Aside0.mk hrs'
          have HLR := Aside0.mk hlr
          have HRL := Aside0.mk hrl
          have HPB1 := Aside0.mk (blk_below HPB.out HB.out)
          have pc0 : wr.cell? ⟨gp, 0, none⟩ = some (.slice P0 (machL l1).length k0) := (blk_cell HPB1.out 0).trans rfl
          have pc1 : wr.cell? ⟨gp, 1, none⟩ = some (.slice P1 seats.length k1) := (blk_cell HPB1.out 1).trans rfl
          have pc2 : wr.cell? ⟨gp, 2, none⟩ = some (.slice P2 F.length k2) := (blk_cell HPB1.out 2).trans rfl
          have pc3 : wr.cell? ⟨gp, 3, none⟩ = some (.slice P3 S.length k3) := (blk_cell HPB1.out 3).trans rfl
          have pq0 : (0 ≤ q) = True := eq_true (by omega)
          have pq1 : (q < ((machL l1).length : Int)) = True := eq_true (by omega)
          clear hrow hfx hpx hkx hx0 hfind hrs hrs' hlr hrl HPB1 hq
          subst hidx
          have hq0' := hq0
          have hq1' := hq1
          go_upto_region 18 with (first
            | ((with_reducible refine gate_dst (N := 85) rfl ?_); go_must (refine goesL_ (some 85) rfl rfl Try.func28 (by kernel_rfl) rfl #[.agg #[.slice P0 (machL l1).length k0, .slice P1 seats.length k1, .slice P2 F.length k2, .slice P3 S.length k3], .int .i64 x.f0] rfl (by (try simp only [List.map_toArray, List.map_cons, List.map_nil]); first | done | rfl) ?_; refine (sequence_Find.calls P0 k0 (machL l1) P1 k1 seats P2 k2 F P3 k3 S x.f0 x.f0 x.f1 x.f2 x.f3 true wr (Kd.C_below HP0.out HB.out) hk0 (Kd.C_below HP1.out HB.out) hk1 (Kd.C_below HP2.out HB.out) hk2 (Kd.C_below HP3.out HB.out) hk3 HFD.out).mono ?_)
               rintro e wf ⟨rfl, hb⟩
               refine ⟨_, rfl, ?_⟩
               have HBf := Aside0.mk (below_then HB.out HB.out.size hb)
               have HSf := Aside0.mk (Kd.S_below HS.out hb)
               have HTf := Aside0.mk (Kd.S_below HT.out hb)
               have hgf : wc.heap.size ≤ wf.heap.size := Nat.le_trans hgr hb.size
               clear hb pc0 pc1 pc2 pc3 hxi)
            | go_in)
          generalize hWx : wf.alloc (.cells #[.int .i64 x.f0, .int .i64 x.f1, .int .i64 x.f2, .int .i64 x.f3] 60) = Wx
          have hbx : Below wf.heap.size wf Wx := by rw [← hWx]; exact (Below.refl _ _).alloc (Nat.le_refl _) _
          have HBr := Aside0.mk (below_then HBf.out HBf.out.size hbx)
          have HSr := Aside0.mk (Kd.S_below HSf.out hbx)
          have HTr := Aside0.mk (Kd.S_below HTf.out hbx)
          have hxb : Wx.heap[wf.heap.size]? = some (.cells #[.int .i64 x.f0, .int .i64 x.f1, .int .i64 x.f2, .int .i64 x.f3] 60 (0, 0)) := by rw [← hWx]; exact blk_new _ _
          have hgx : wc.heap.size ≤ Wx.heap.size := Nat.le_trans hgf hbx.size
          have HXB := Aside0.mk hxb
          clear hWx hbx HSf HTf HBf hxb
          generalize wf.heap.size = gx at HXB hgf ⊢
          have hcx : Wx.cell? ⟨gx, 2, none⟩ = some (.int .i64 q) := by rw [HQ.out]; exact (blk_cell HXB.out 2).trans rfl
          obtain ⟨oki, ce, hcl, hM, hcc, hfr, hoki, hH⟩ := Kd.S_elem HSr.out ([] : List Int) q (of_eq_true pq0) (of_eq_true pq1)
          obtain ⟨ve, rfl, hRe⟩ := hM
          have hcv := hcc 0 _ rfl
          simp only [Nat.add_zero, show (Kd.slice 3 (Kd.int .i64)).sz = 1 from rfl, Nat.mul_one] at hcv
          have hrow : rows.getD q.toNat [] = rd_L4 rows q := rfl
          rw [hrow] at hRe
          clear hrow
          generalize rd_L4 rows q = row at hRe HLR HROW
          have hlr := HLR.out
          have hnx : some gx ≠ ve.ownBlock := Kd.R_ne hRe HXB.out (by decide)
          have hnv : some g1 ≠ ve.ownBlock := fun h => (hoki g1 (hRe.1 _ h.symm)).2 rfl
          have HTx := Aside0.mk (show ∀ k, ve.ownBlock = some k → wc.heap.size ≤ k from fun k hk => by have h1 := hoki k (hRe.1 _ hk); rcases h1.1 with h2 | h2; exact absurd h2 h1.2; exact h2)
          have hH2 : Kd.H (Kd.slice 3 (Kd.int .i64)) 24 Wx W12.heap.size (fun k => k = g1 ∨ wc.heap.size ≤ k) (.slice (some ⟨g1, 0, none⟩) (machL l1).length cap1) rows q (fun k => oki k ∨ (k = g1 ∨ wc.heap.size ≤ k) ∧ Wx.heap.size ≤ k) [ve] := Kd.H_widen hH
          have hRe2 : Kd.R (Kd.int .i64) 3 Wx W12.heap.size (fun k => oki k ∨ (k = g1 ∨ wc.heap.size ≤ k) ∧ Wx.heap.size ≤ k) ve row := Kd.R_mono hRe (fun k hk => Or.inl hk)
          have hfr2 : ∀ k, Wx.heap.size ≤ k → (fun k => oki k ∨ (k = g1 ∨ wc.heap.size ≤ k) ∧ Wx.heap.size ≤ k) k := fun k hk => .inr ⟨.inr (by omega), hk⟩
          generalize (fun k => oki k ∨ (k = g1 ∨ wc.heap.size ≤ k) ∧ Wx.heap.size ≤ k) = oki2 at hH2 hRe2 hfr2
          have HH2 := Aside0.mk hH2
          have HRE2 := Aside0.mk hRe2
          have HFR2 := Aside0.mk hfr2
          clear hH2 hRe2 hcl hcc hfr hoki hH hRe HSr hfr2
          refine start_ (n := 13) (S := fun w' => w'.cell? ⟨gx, 2, none⟩ = some (.int .i64 q) ∧ w'.cell? ⟨g1, q.toNat, none⟩ = some ve) (ds := [12]) #[false, false, false, false, false, false, false, false, false, false, false, false, false] (by kernel_rfl) rfl rfl ⟨hcx, hcv⟩ (fun hHeld => ?_)
          refine pure_ (i := 0) (N := some 108) (v := ?_) (a' := ?_) #[true, false, false, false, false, false, false, false, false, false, false, false, false] rfl rfl (by kernel_rfl) (fun _ _ _ h => h) (Or.inl ⟨by rfl, ?_⟩) ?_ ?_
          rotate_left
          · intro w'
            go_simp
            with_reducible rfl
          rotate_left
          · simp only [Act.put, List.setIfInBounds_toArray, List.set_cons_zero, List.set_cons_succ, i64_w, i32_w]
            rfl
          refine pure_ (i := 1) (N := some 109) (v := ?_) (a' := ?_) #[true, true, false, false, false, false, false, false, false, false, false, false, false] rfl rfl (by kernel_rfl) (fun _ _ _ h => h) (Or.inl ⟨by rfl, ?_⟩) ?_ ?_
          rotate_left
          · intro w'
            go_simp
            with_reducible rfl
          rotate_left
          · simp only [Act.put, List.setIfInBounds_toArray, List.set_cons_zero, List.set_cons_succ, i64_w, i32_w]
            rfl
          refine take_ (i := 2) (N := some 110) (v := ?_) (a' := ?_) #[true, true, true, false, false, false, false, false, false, false, false, false, false] rfl rfl (by kernel_rfl) (fun _ _ _ h => h) (Or.inl ⟨by rfl, ?_⟩) hHeld ?_ ?_
          rotate_left
          · rintro w' ⟨s0, s1⟩
            go_simp
            with_reducible rfl
          rotate_left
          · simp only [Act.put, List.setIfInBounds_toArray, List.set_cons_zero, List.set_cons_succ, i64_w, i32_w]
            rfl
          refine pure_ (i := 3) (N := some 111) (v := ?_) (a' := ?_) #[true, true, true, true, false, false, false, false, false, false, false, false, false] rfl rfl (by kernel_rfl) (fun _ _ _ h => h) (Or.inl ⟨by rfl, ?_⟩) ?_ ?_
          rotate_left
          · intro w'
            go_simp
            with_reducible rfl
          rotate_left
          · simp only [Act.put, List.setIfInBounds_toArray, List.set_cons_zero, List.set_cons_succ, i64_w, i32_w]
            rfl
          refine pure_ (i := 4) (N := some 112) (v := ?_) (a' := ?_) #[true, true, true, true, true, false, false, false, false, false, false, false, false] rfl rfl (by kernel_rfl) (fun _ _ _ h => h) (Or.inl ⟨by rfl, ?_⟩) ?_ ?_
          rotate_left
          · intro w'
            go_simp
            with_reducible rfl
          rotate_left
          · simp only [Act.put, List.setIfInBounds_toArray, List.set_cons_zero, List.set_cons_succ, i64_w, i32_w]
            rfl
          refine take_ (i := 5) (N := some 113) (v := ?_) (a' := ?_) #[true, true, true, true, true, true, false, false, false, false, false, false, false] rfl rfl (by kernel_rfl) (fun _ _ _ h => h) (Or.inl ⟨by rfl, ?_⟩) hHeld ?_ ?_
          rotate_left
          · rintro w' ⟨s0, s1⟩
            go_simp
            with_reducible rfl
          rotate_left
          · simp only [Act.put, List.setIfInBounds_toArray, List.set_cons_zero, List.set_cons_succ, i64_w, i32_w]
            rfl
          refine pure_ (i := 6) (N := some 114) (v := ?_) (a' := ?_) #[true, true, true, true, true, true, true, false, false, false, false, false, false] rfl rfl (by kernel_rfl) (fun _ _ _ h => h) (Or.inl ⟨by rfl, ?_⟩) ?_ ?_
          rotate_left
          · intro w'
            go_simp
            with_reducible rfl
          rotate_left
          · simp only [Act.put, List.setIfInBounds_toArray, List.set_cons_zero, List.set_cons_succ, i64_w, i32_w]
            rfl
          refine take_ (i := 7) (N := some 115) (v := ?_) (a' := ?_) #[true, true, true, true, true, true, true, true, false, false, false, false, false] rfl rfl (by kernel_rfl) (fun _ _ _ h => h) (Or.inl ⟨by rfl, ?_⟩) hHeld ?_ ?_
          rotate_left
          · rintro w' ⟨s0, s1⟩
            go_simp
            with_reducible rfl
          rotate_left
          · simp only [Act.put, List.setIfInBounds_toArray, List.set_cons_zero, List.set_cons_succ, i64_w, i32_w]
            rfl
          refine pure_ (i := 8) (N := some 116) (v := ?_) (a' := ?_) #[true, true, true, true, true, true, true, true, true, false, false, false, false] rfl rfl (by kernel_rfl) (fun _ _ _ h => h) (Or.inl ⟨by rfl, ?_⟩) ?_ ?_
          rotate_left
          · intro w'
            go_simp
            with_reducible rfl
          rotate_left
          · simp only [Act.put, List.setIfInBounds_toArray, List.set_cons_zero, List.set_cons_succ, i64_w, i32_w]
            rfl
          refine one_ (i := 9) (N := some 117) #[true, true, true, true, true, true, true, true, true, true, false, false, false] rfl rfl (by kernel_rfl) (by decide) (fun K hK => ?_)
          refine value_ (w1 := Wx.drew.alloc (.cells #[.int .i64 (k : Int)] 3)) (v := .slice (some ⟨Wx.heap.size, 0, none⟩) 1 1) (by rfl) rfl ?_ ?_
          · go_simp
          refine hK.out _ _ ⟨((below_alloc (Below.refl _ Wx.drew) _).cell (World.block_lt_of_cell? _ _ hHeld.1)).trans hHeld.1, ((below_alloc (Below.refl _ Wx.drew) _).cell (World.block_lt_of_cell? _ _ hHeld.2)).trans hHeld.2⟩ (fun hHeld2 => ?_)
          clear hK K
          refine norm_ (a' := ?_) ?_ ?_
          rotate_left
          · show Act.put _ (some 117) _ = _
            simp only [Act.put, List.setIfInBounds_toArray, List.set_cons_zero, List.set_cons_succ]
            rfl
          refine one_ (i := 10) (N := some 118) #[true, true, true, true, true, true, true, true, true, true, true, false, false] rfl rfl (by kernel_rfl) (by decide) (fun K hK => ?_)
          refine Kd.R_append_step (Kd.int .i64) (w0 := W12) W12.heap.size (by rfl) (.tmp 115) (.tmp 117) 24 3 (.int .i64 0) 8 rfl Try.underlying24 info3 rfl (by decide) (by omega) ve row (k : Int) [.int .i64 (k : Int)] oki2 (fun _ => False) rfl rfl rfl (fun _ hk => hk.elim) HFR2.out (Kd.R_drew HRE2.out) (below_drew1 HBr.out) HBr.out.size (by omega) ?_
          intro v6 w6 ho6 hb6 hg6 hat6
          obtain ⟨A6, k6, e6⟩ := Kd.R_slice ho6
          rw [List.length_append, List.length_singleton] at e6
          have hc6x := cell_grown hg6 hHeld.1 hnx
          have hc6v := cell_grown hg6 hHeld.2 hnv
          refine hK.out _ _ ⟨hc6x, hc6v⟩ (fun hHeld3 => ?_)
          clear hK K
          refine norm_ (a' := ?_) ?_ ?_
          rotate_left
          · show Act.put _ (some 118) _ = _
            simp only [Act.put, List.setIfInBounds_toArray, List.set_cons_zero, List.set_cons_succ]
            rfl
          have hH6 := Kd.H_grown (Kd.H_drew HH2.out) hg6 (fun k hk => HRE2.out.1 k hk)
          have hfv := (Kd.H_at hH6 (of_eq_true pq0) (of_eq_true pq1)).2 0
          simp only [Nat.add_zero, show (Kd.slice 3 (Kd.int .i64)).sz = 1 from rfl, Nat.mul_one] at hfv
          subst e6
          refine pure_ (i := 11) (N := some 119) (v := ?_) (a' := ?_) #[true, true, true, true, true, true, true, true, true, true, true, true, false] rfl rfl (by kernel_rfl) (fun _ _ _ h => h) (Or.inl ⟨by rfl, ?_⟩) ?_ ?_
          rotate_left
          · intro w'
            go_simp
            with_reducible rfl
          rotate_left
          · simp only [Act.put, List.setIfInBounds_toArray, List.set_cons_zero, List.set_cons_succ, i64_w, i32_w]
            rfl
          refine last_ (i := 12) (N := none) #[true, true, true, true, true, true, true, true, true, true, true, true, true] rfl rfl (by kernel_rfl) (by decide) (fun K hK => ?_)
          refine skip_ (w1 := w6.setCell ⟨g1, q.toNat, none⟩ (.slice A6 (row.length + 1) k6)) (by rfl) rfl ?_ ?_
          · go_simp
          refine hK.out _ _ ?_
          clear hK K
          refine done_ (by kernel_rfl) ?_
          go_wp2
          have hS7 := (Kd.S_seg0 hH6 (of_eq_true pq0) (of_eq_true pq1) (seg := [.slice A6 (row.length + 1) k6]) (j := 0) (Nat.le_refl 1) ⟨_, rfl, ho6⟩ (fun _ hk => hk)).1
          simp only [World.setCells, Nat.add_zero, show (Kd.slice 3 (Kd.int .i64)).sz = 1 from rfl, Nat.mul_one] at hS7
          have HS7 := Aside0.mk hS7
          clear hS7
          go_roundw
          case rel =>
            refine ⟨k + 1, by omega, by go_num, ⟨?_⟩, ⟨?_⟩, ⟨?_⟩, ?_⟩
            · rw [← HRS'.out, HROW.out]
              exact HS7.out
            · exact Kd.S_far (p := ⟨g1, q.toNat, none⟩) (Kd.S_grown (Kd.S_drew HTr.out) hg6 (fun k hk h => by have := HTx.out k h.symm; subst hk; omega)) (fun k hk h => hne12 (by rw [← hk]; exact h.symm)) _
            · exact hb6.setCell hg1b _
            · have := hg6.size
              simp only [World.setCell, Array.size_modify]
              exact Nat.le_trans hgx this
          case measure => simp [intOf]; omega
        · have hk' : k = items.length := by omega
          have HSa := Aside0.mk (show Kd.S (Kd.slice 3 (Kd.int .i64)) 24 wr W12.heap.size (fun k => k = g1 ∨ wc.heap.size ≤ k) (.slice (some ⟨g1, 0, none⟩) (machL l1).length cap1) r1 by
            have h := HS.out
            rw [List.take_of_length_le (by rw [upTo_len]; omega)] at h
            rw [HR1E.out]
            exact h)
          clear HS hk'
          go_wp2
          clear hk hlt
          have hwr2 : wr.heap.size ≤ wr.heap.size := Nat.le_refl _
          obtain ⟨N2, hN2⟩ : ∃ y, y = wr.heap.size := ⟨_, rfl⟩
          have HSb := Aside0.mk (Kd.S_mono (Kd.S_bound HSa.out) (ok' := fun k => k ≠ g2 ∧ k < N2) (fun k hk => ⟨fun h => by have := hk.1; omega, by have := hk.2.2.1; omega⟩))
          have HTb := Aside0.mk (Kd.S_mono HT.out (ok' := fun k => k = g2 ∨ N2 ≤ k) (fun k hk => .inl hk))
          have hN2g : g2 < N2 := by omega
          have hN1g : g1 < N2 := by omega
          have hN2s : N2 ≤ wr.heap.size := by omega
          have hl1' := HL1.out
          have HN2 := Aside0.mk hN2
          have hr1l : r1.flatten.length ≤ 2000 := by have := HRUN.out.all1; omega
          clear hN2 hwr2 HSa HT hl1'
          go_loopw [123] (fun i wr => ∃ k : Nat, k ≤ (machL l1).length ∧ i = .int .i64 k ∧ Aside0 (Kd.S (Kd.slice 3 (Kd.int .i64)) 24 wr W12.heap.size (fun k => k ≠ g2 ∧ k < N2) (.slice (some ⟨g1, 0, none⟩) (machL l1).length cap1) r1) ∧
              Aside0 (Kd.S (Kd.slice 3 (Kd.int .i64)) 24 wr W12.heap.size (fun k => k = g2 ∨ N2 ≤ k) (.slice (some ⟨g2, 0, none⟩) (machL l1).length cap2) (passRows (machL l1).length (keySecond seats items) (r1.take k).flatten)) ∧ Aside0 (Below W12.heap.size W12 wr) ∧ N2 ≤ wr.heap.size)
            (fun i _ => (machL l1).length - (intOf i).toNat)
          case atStart => exact ⟨0, Nat.zero_le _, rfl, HSb, HTb, HB, hN2s⟩
          case round =>
            clear HSb HTb HB hN2s hgr
            obtain ⟨k, hk, rfl, HS, HT, HB, hgr⟩ := hrel
            by_cases hlt : k < (machL l1).length
            · have hkr : k < r1.length := by rw [HL1.out]; exact hlt
              obtain ⟨ad, Ra, ca, rfl, hra, hca, hRa⟩ := at_L4 (Kd.C_below HC0.out HB.out) (k : Int) (by omega) (by omega)
              obtain ⟨ad1, Fa, fa, e1, hfa, hfa1, hFa⟩ := at_L4 (Kd.S_reads' HS.out).2.2 (k : Int) (by omega) (by omega)
              injection e1 with e1
              subst e1
              simp only [Int.toNat_natCast, add_plain] at hra hfa
              have hft := flat_take_r r1 k hkr
              have hrk := rd_L4_get r1 k hkr
              have hrlen : (rd_L4 r1 (k : Int)).length ≤ 2000 := Nat.le_trans (row_le_flat r1 _) hr1l
              obtain ⟨rowk, hrowk'⟩ : ∃ y, y = rd_L4 r1 (k : Int) := ⟨_, rfl⟩
              have hrowk := hrowk'.symm
              rw [← hrowk'] at hra hca hRa hfa hfa1 hFa hft hrlen
              clear hrowk'
              have HRa := Aside0.mk hRa
              have HFa := Aside0.mk hFa
              have HFT := Aside0.mk hft
              have HRK := Aside0.mk hrowk
              have HSM := Aside0.mk (same_f rowk (by omega) 100000 (by omega))
              have hrb := blk_below HRB.out HB.out
              have rc0 : wr.cell? ⟨gr, 0, none⟩ = some (.slice (some ad) (machL l1).length j0) := (blk_cell hrb 0).trans rfl
              have HBr := Aside0.mk HB.out
              have pq0 : (0 ≤ (k : Int)) = True := eq_true (by omega)
              have pq1 : ((k : Int) < ((machL l1).length : Int)) = True := eq_true (by omega)
              clear hRa hFa hft hrk hrb hrowk
              go_upto_region 23 with fail
              refine start_ (n := 11) (S := fun w' => Below wr.heap.size wr w') (ds := []) #[false, false, false, false, false, false, false, false, false, false, false] (by kernel_rfl) rfl rfl (below_drew1 (Below.refl _ _)) (fun hHeld => ?_)
              generalize wr.drew = wd at hHeld ⊢
              refine pure_ (i := 0) (N := some 126) (v := ?_) (a' := ?_) #[true, false, false, false, false, false, false, false, false, false, false] rfl rfl (by kernel_rfl) (fun _ _ _ h => h) (Or.inl ⟨by rfl, ?_⟩) ?_ ?_
              rotate_left
              · intro w'
                go_simp
                with_reducible rfl
              rotate_left
              · simp only [Act.put, List.setIfInBounds_toArray, List.set_cons_zero, List.set_cons_succ, i64_w, i32_w]
                rfl
              refine take_ (i := 1) (N := some 127) (v := ?_) (a' := ?_) #[true, true, false, false, false, false, false, false, false, false, false] rfl rfl (by kernel_rfl) (fun _ _ _ h => h) (Or.inl ⟨by rfl, ?_⟩) hHeld ?_ ?_
              rotate_left
              · rintro w' s0
                have f0 := (s0.cell (World.block_lt_of_cell? _ _ rc0)).trans rc0
                go_simp
                with_reducible rfl
              rotate_left
              · simp only [Act.put, List.setIfInBounds_toArray, List.set_cons_zero, List.set_cons_succ, i64_w, i32_w]
                rfl
              refine pure_ (i := 2) (N := some 128) (v := ?_) (a' := ?_) #[true, true, true, false, false, false, false, false, false, false, false] rfl rfl (by kernel_rfl) (fun _ _ _ h => h) (Or.inl ⟨by rfl, ?_⟩) ?_ ?_
              rotate_left
              · intro w'
                go_simp
                with_reducible rfl
              rotate_left
              · simp only [Act.put, List.setIfInBounds_toArray, List.set_cons_zero, List.set_cons_succ, i64_w, i32_w]
                rfl
              refine pure_ (i := 3) (N := some 129) (v := ?_) (a' := ?_) #[true, true, true, true, false, false, false, false, false, false, false] rfl rfl (by kernel_rfl) (fun _ _ _ h => h) (Or.inl ⟨by rfl, ?_⟩) ?_ ?_
              rotate_left
              · intro w'
                go_simp
                with_reducible rfl
              rotate_left
              · simp only [Act.put, List.setIfInBounds_toArray, List.set_cons_zero, List.set_cons_succ, i64_w, i32_w]
                rfl
              refine take_ (i := 4) (N := some 130) (v := ?_) (a' := ?_) #[true, true, true, true, true, false, false, false, false, false, false] rfl rfl (by kernel_rfl) (fun _ _ _ h => h) (Or.inl ⟨by rfl, ?_⟩) hHeld ?_ ?_
              rotate_left
              · rintro w' s0
                have f0 := (s0.cell (World.block_lt_of_cell? _ _ hra)).trans hra
                go_simp
                with_reducible rfl
              rotate_left
              · simp only [Act.put, List.setIfInBounds_toArray, List.set_cons_zero, List.set_cons_succ, i64_w, i32_w]
                rfl
              refine pure_ (i := 5) (N := some 131) (v := ?_) (a' := ?_) #[true, true, true, true, true, true, false, false, false, false, false] rfl rfl (by kernel_rfl) (fun _ _ _ h => h) (Or.inl ⟨by rfl, ?_⟩) ?_ ?_
              rotate_left
              · intro w'
                go_simp
                with_reducible rfl
              rotate_left
              · simp only [Act.put, List.setIfInBounds_toArray, List.set_cons_zero, List.set_cons_succ, i64_w, i32_w]
                rfl
              refine pure_ (i := 6) (N := some 132) (v := ?_) (a' := ?_) #[true, true, true, true, true, true, true, false, false, false, false] rfl rfl (by kernel_rfl) (fun _ _ _ h => h) (Or.inl ⟨by rfl, ?_⟩) ?_ ?_
              rotate_left
              · intro w'
                go_simp
                with_reducible rfl
              rotate_left
              · simp only [Act.put, List.setIfInBounds_toArray, List.set_cons_zero, List.set_cons_succ, i64_w, i32_w]
                rfl
              refine pure_ (i := 7) (N := some 133) (v := ?_) (a' := ?_) #[true, true, true, true, true, true, true, true, false, false, false] rfl rfl (by kernel_rfl) (fun _ _ _ h => h) (Or.inl ⟨by rfl, ?_⟩) ?_ ?_
              rotate_left
              · intro w'
                go_simp
                with_reducible rfl
              rotate_left
              · simp only [Act.put, List.setIfInBounds_toArray, List.set_cons_zero, List.set_cons_succ, i64_w, i32_w]
                rfl
              refine take_ (i := 8) (N := some 134) (v := ?_) (a' := ?_) #[true, true, true, true, true, true, true, true, true, false, false] rfl rfl (by kernel_rfl) (fun _ _ _ h => h) (Or.inl ⟨by rfl, ?_⟩) hHeld ?_ ?_
              rotate_left
              · rintro w' s0
                have f0 := (s0.cell (World.block_lt_of_cell? _ _ hfa)).trans hfa
                go_simp
                with_reducible rfl
              rotate_left
              · simp only [Act.put, List.setIfInBounds_toArray, List.set_cons_zero, List.set_cons_succ, i64_w, i32_w]
                rfl
              refine one_ (i := 9) (N := some 135) #[true, true, true, true, true, true, true, true, true, true, false] rfl rfl (by kernel_rfl) (by decide) (fun K hK => ?_)
              refine goes_ Try.func21 (by kernel_rfl) rfl #[.slice Ra rowk.length ca, .slice Fa rowk.length fa] (by rfl) rfl rfl (by (try simp only [List.map_toArray, List.map_cons, List.map_nil]); first | done | rfl) ?_
              refine (letterbagkit_SameInts.calls 100000 Ra ca rowk Fa fa rowk true wd (Kd.C_below HRa.out hHeld) hca (Kd.C_below HFa.out hHeld) hfa1 HSM.out).mono ?_
              rintro e w5 ⟨rfl, hd5⟩
              refine ⟨_, rfl, ?_⟩
              refine hK.out _ _ (below_then hHeld hHeld.size hd5.below) (fun hHeld2 => ?_)
              clear hK K hd5
              refine pure_ (i := 10) (N := some 136) (v := ?_) (a' := ?_) #[true, true, true, true, true, true, true, true, true, true, true] rfl rfl (by kernel_rfl) (fun _ _ _ h => h) (Or.inl ⟨by rfl, ?_⟩) ?_ ?_
              rotate_left
              · intro w'
                go_simp
                with_reducible rfl
              rotate_left
              · simp only [Act.put, List.setIfInBounds_toArray, List.set_cons_zero, List.set_cons_succ, i64_w, i32_w]
                rfl
              refine done_ (by kernel_rfl) ?_
              have HB5 := Aside0.mk (below_then HBr.out HBr.out.size hHeld2)
              have HS5 := Aside0.mk (Kd.S_below HS.out hHeld2)
              have HT5 := Aside0.mk (Kd.S_below HT.out hHeld2)
              have hfa5 : w5.cell? ⟨g1, k, none⟩ = some (.slice Fa rowk.length fa) := (hHeld2.cell (World.block_lt_of_cell? _ _ hfa)).trans hfa
              have hgr5 : N2 ≤ w5.heap.size := Nat.le_trans hgr hHeld2.size
              have HCE := Aside0.mk hfa5
              clear hHeld2 hHeld hra hfa rc0 HS HT HB HBr hgr HRa HFa HSM
              go_wp2
              go_loopw [142] (fun i wr => ∃ j : Nat, j ≤ rowk.length ∧ i = .int .i64 j ∧ Aside0 (Kd.S (Kd.slice 3 (Kd.int .i64)) 24 wr W12.heap.size (fun k => k ≠ g2 ∧ k < N2) (.slice (some ⟨g1, 0, none⟩) (machL l1).length cap1) r1) ∧
                  Aside0 (Kd.S (Kd.slice 3 (Kd.int .i64)) 24 wr W12.heap.size (fun k => k = g2 ∨ N2 ≤ k) (.slice (some ⟨g2, 0, none⟩) (machL l1).length cap2) (passRows (machL l1).length (keySecond seats items) ((r1.take k).flatten ++ rowk.take j))) ∧ Aside0 (Below W12.heap.size W12 wr) ∧ N2 ≤ wr.heap.size ∧
                  Aside0 (wr.cell? ⟨g1, k, none⟩ = some (.slice Fa rowk.length fa)))
                (fun i _ => rowk.length - (intOf i).toNat)
              case atStart => exact ⟨0, Nat.zero_le _, rfl, HS5, ⟨by rw [List.take_zero, List.append_nil]; exact HT5.out⟩, HB5, hgr5, HCE⟩
              case round =>
                clear HS5 HT5 HB5 hgr5 hfa5 HCE
                obtain ⟨j, hj, rfl, HS, HT, HB, hgr, HCE⟩ := hrel
                by_cases hlj : j < rowk.length
                · have hkr2 : k < r1.length := by rw [HL1.out]; exact hlt
                  obtain ⟨ad1, Fa', fa', e1, hfa', _, hFa'⟩ := at_L4 (Kd.S_reads' HS.out).2.2 (k : Int) (by omega) (by omega)
                  injection e1 with e1
                  subst e1
                  simp only [Int.toNat_natCast, add_plain] at hfa'
                  rw [HCE.out, HRK.out] at hfa'
                  rw [HRK.out] at hFa'
                  simp only [Option.some.injEq, Value.slice.injEq] at hfa'
                  obtain ⟨rfl, _, rfl⟩ := hfa'
                  obtain ⟨adf, rfl, hxj⟩ := Kd.at_int hFa' (j : Int) (by omega) (by omega)
                  simp only [Int.toNat_natCast] at hxj
                  have him : rd rowk (j : Int) ∈ upTo items.length := by
                    have h1 : rd rowk (j : Int) ∈ r1.flatten := row_mem_flat r1 k hkr2 _ (by rw [HRK.out]; exact rd_mem (by omega) (by omega))
                    rw [HR1E.out] at h1
                    exact passRows_mem _ _ _ _ h1
                  obtain ⟨hi0, hi1⟩ := upTo_mem him
                  have htk : rowk.take (j + 1) = rowk.take j ++ [rd rowk (j : Int)] := take_rd hlj
                  obtain ⟨adi, rfl, hxi⟩ := Kd.at_int (Kd.C_below HI.out HB.out) (rd rowk (j : Int)) hi0 hi1
                  obtain ⟨x, hfx, hpx, hx0, hq0, hq1, hq2, hq3⟩ := HFIND.out (rd items (rd rowk (j : Int))) (rd_mem hi0 hi1)
                  have hkx : keySecond seats items (rd rowk (j : Int)) = x.f3 := by unfold keySecond; rw [hpx]
                  have hrow := passRows_snoc (machL l1).length (keySecond seats items) ((r1.take k).flatten ++ rowk.take j) (rd rowk (j : Int))
                  obtain ⟨q, hq⟩ : ∃ y, y = x.f3 := ⟨_, rfl⟩
                  rw [List.append_assoc, ← htk, hkx, ← hq] at hrow
                  have HQ := Aside0.mk hq
                  have hfind : sequence_Find.f (machL l1) seats F S (rd items (rd rowk (j : Int))) = some (x.f0, x.f1, x.f2, x.f3, true) := by unfold sequence_Find.f; rw [hfx]
                  clear htk him
                  generalize rd rowk (j : Int) = iv at hxj hi0 hi1 hxi hrow hfind hx0 hfx hpx hkx
                  generalize rd items iv = id at hxi hfind hx0 hfx hpx
                  have HFD := Aside0.mk hfind
                  have hidx : x.f0 = id := hx0
                  obtain ⟨rows, hrs⟩ : ∃ y, y = passRows (machL l1).length (keySecond seats items) ((r1.take k).flatten ++ rowk.take j) := ⟨_, rfl⟩
                  obtain ⟨rows', hrs'⟩ : ∃ y, y = passRows (machL l1).length (keySecond seats items) ((r1.take k).flatten ++ rowk.take (j + 1)) := ⟨_, rfl⟩
                  have hlr : (rd_L4 rows q).length ≤ 2000 := by
                    rw [hrs]
                    refine Nat.le_trans (passRows_row_le _ _ _ _) ?_
                    have h1 := flat_le r1 (k + 1)
                    rw [HFT.out, List.length_append] at h1
                    rw [List.length_append, List.length_take]
                    omega
                  rw [← hrs] at HT hrow
                  rw [← hrs'] at hrow
                  have HROW := Aside0.mk hrow
                  have HRS' := Aside0.mk hrs'
                  have HLR := Aside0.mk hlr
                  have HPB1 := Aside0.mk (blk_below HPB.out HB.out)
                  have pc0 : wr.cell? ⟨gp, 0, none⟩ = some (.slice P0 (machL l1).length k0) := (blk_cell HPB1.out 0).trans rfl
                  have pc1 : wr.cell? ⟨gp, 1, none⟩ = some (.slice P1 seats.length k1) := (blk_cell HPB1.out 1).trans rfl
                  have pc2 : wr.cell? ⟨gp, 2, none⟩ = some (.slice P2 F.length k2) := (blk_cell HPB1.out 2).trans rfl
                  have pc3 : wr.cell? ⟨gp, 3, none⟩ = some (.slice P3 S.length k3) := (blk_cell HPB1.out 3).trans rfl
                  have pq0 : (0 ≤ q) = True := eq_true (by omega)
                  have pq1 : (q < ((machL l1).length : Int)) = True := eq_true (by omega)
                  have HBr := Aside0.mk HB.out
                  clear hrow hfx hpx hkx hx0 hfind hrs hrs' hlr HPB1 hq hFa'
                  subst hidx
                  replace hi0 := eq_true hi0
                  replace hi1 := eq_true hi1
                  go_upto_region 28 with fail
                  clear hxj
                  go_cut [22, 23] from 146 to 154 (fun v22 v23 wy => ∃ gx : Nat, v22 = .pointer (some ⟨gx, 0, none⟩) ∧ v23 = .bool true ∧ Aside0 (wy.heap[gx]? = some (.cells #[.int .i64 x.f0, .int .i64 x.f1, .int .i64 x.f2, .int .i64 x.f3] 60 (0, 0))) ∧ wr.heap.size ≤ gx ∧ Aside0 (Below wr.heap.size wr wy))
                  case first =>
                    refine start_ (n := 12) (S := fun w' => Below wr.heap.size wr w') (ds := []) #[false, false, false, false, false, false, false, false, false, false, false, false] (by kernel_rfl) rfl rfl (below_drew1 (Below.refl _ _)) (fun hHeld => ?_)
                    generalize wr.drew = wd at hHeld ⊢
                    refine take_ (i := 0) (N := some 147) (v := ?_) (a' := ?_) #[true, false, false, false, false, false, false, false, false, false, false, false] rfl rfl (by kernel_rfl) (fun _ _ _ h => h) (Or.inl ⟨by rfl, ?_⟩) hHeld ?_ ?_
                    rotate_left
                    · rintro w' s0
                      have f0 := (s0.cell (World.block_lt_of_cell? _ _ pc0)).trans pc0
                      have f1 := (s0.cell (World.block_lt_of_cell? _ _ pc1)).trans pc1
                      have f2 := (s0.cell (World.block_lt_of_cell? _ _ pc2)).trans pc2
                      have f3 := (s0.cell (World.block_lt_of_cell? _ _ pc3)).trans pc3
                      go_simp
                      with_reducible rfl
                    rotate_left
                    · simp only [Act.put, List.setIfInBounds_toArray, List.set_cons_zero, List.set_cons_succ, i64_w, i32_w]
                      rfl
                    refine pure_ (i := 1) (N := some 148) (v := ?_) (a' := ?_) #[true, true, false, false, false, false, false, false, false, false, false, false] rfl rfl (by kernel_rfl) (fun _ _ _ h => h) (Or.inl ⟨by rfl, ?_⟩) ?_ ?_
                    rotate_left
                    · intro w'
                      go_simp
                      with_reducible rfl
                    rotate_left
                    · simp only [Act.put, List.setIfInBounds_toArray, List.set_cons_zero, List.set_cons_succ, i64_w, i32_w]
                      rfl
                    refine pure_ (i := 2) (N := some 149) (v := ?_) (a' := ?_) #[true, true, true, false, false, false, false, false, false, false, false, false] rfl rfl (by kernel_rfl) (fun _ _ _ h => h) (Or.inl ⟨by rfl, ?_⟩) ?_ ?_
                    rotate_left
                    · intro w'
                      go_simp
                      with_reducible rfl
                    rotate_left
                    · simp only [Act.put, List.setIfInBounds_toArray, List.set_cons_zero, List.set_cons_succ, i64_w, i32_w]
                      rfl
                    refine pure_ (i := 3) (N := some 150) (v := ?_) (a' := ?_) #[true, true, true, true, false, false, false, false, false, false, false, false] rfl rfl (by kernel_rfl) (fun _ _ _ h => h) (Or.inl ⟨by rfl, ?_⟩) ?_ ?_
                    rotate_left
                    · intro w'
                      go_simp
                      with_reducible rfl
                    rotate_left
                    · simp only [Act.put, List.setIfInBounds_toArray, List.set_cons_zero, List.set_cons_succ, i64_w, i32_w]
                      rfl
                    refine take_ (i := 4) (N := some 151) (v := ?_) (a' := ?_) #[true, true, true, true, true, false, false, false, false, false, false, false] rfl rfl (by kernel_rfl) (fun _ _ _ h => h) (Or.inl ⟨by rfl, ?_⟩) hHeld ?_ ?_
                    rotate_left
                    · rintro w' s0
                      have f0 := (s0.cell (World.block_lt_of_cell? _ _ hxi)).trans hxi
                      go_simp
                      with_reducible rfl
                    rotate_left
                    · simp only [Act.put, List.setIfInBounds_toArray, List.set_cons_zero, List.set_cons_succ, i64_w, i32_w]
                      rfl
                    refine two_ (i := 5) (j := 9) (Ni := some 152) (Nj := some 22) #[true, true, true, true, true, true, false, false, false, false, false, false] #[true, true, true, true, true, false, false, false, false, true, false, false] rfl rfl rfl rfl (by kernel_rfl) (by decide) (by decide) (fun K hK => ?_) (fun K hK => ?_)
                    · refine goes_ Try.func28 (by kernel_rfl) rfl #[.agg #[.slice P0 (machL l1).length k0, .slice P1 seats.length k1, .slice P2 F.length k2, .slice P3 S.length k3], .int .i64 x.f0] (by rfl) rfl rfl (by (try simp only [List.map_toArray, List.map_cons, List.map_nil]); first | done | rfl) ?_
                      refine (sequence_Find.calls P0 k0 (machL l1) P1 k1 seats P2 k2 F P3 k3 S x.f0 x.f0 x.f1 x.f2 x.f3 true wd (Kd.C_below HP0.out (below_then HBr.out HBr.out.size hHeld)) hk0 (Kd.C_below HP1.out (below_then HBr.out HBr.out.size hHeld)) hk1 (Kd.C_below HP2.out (below_then HBr.out HBr.out.size hHeld)) hk2 (Kd.C_below HP3.out (below_then HBr.out HBr.out.size hHeld)) hk3 HFD.out).mono ?_
                      rintro e w5 ⟨rfl, hb5⟩
                      refine ⟨_, rfl, ?_⟩
                      refine hK.out _ _ (below_then hHeld hHeld.size hb5) (fun hHeld2 => ?_)
                      clear hK K
                      refine pure_ (i := 6) (N := some 146) (v := ?_) (a' := ?_) #[true, true, true, true, true, true, true, false, false, false, false, false] rfl rfl (by kernel_rfl) (fun _ _ _ h => h) (Or.inl ⟨by rfl, ?_⟩) ?_ ?_
                      rotate_left
                      · intro w'
                        go_simp
                        with_reducible rfl
                      rotate_left
                      · simp only [Act.put, List.setIfInBounds_toArray, List.set_cons_zero, List.set_cons_succ, i64_w, i32_w]
                        rfl
                      refine pure_ (i := 7) (N := some 153) (v := ?_) (a' := ?_) #[true, true, true, true, true, true, true, true, false, false, false, false] rfl rfl (by kernel_rfl) (fun _ _ _ h => h) (Or.inl ⟨by rfl, ?_⟩) ?_ ?_
                      rotate_left
                      · intro w'
                        go_simp
                        with_reducible rfl
                      rotate_left
                      · simp only [Act.put, List.setIfInBounds_toArray, List.set_cons_zero, List.set_cons_succ, i64_w, i32_w]
                        rfl
                      refine pure_ (i := 8) (N := some 154) (v := ?_) (a' := ?_) #[true, true, true, true, true, true, true, true, true, false, false, false] rfl rfl (by kernel_rfl) (fun _ _ _ h => h) (Or.inl ⟨by rfl, ?_⟩) ?_ ?_
                      rotate_left
                      · intro w'
                        go_simp
                        with_reducible rfl
                      rotate_left
                      · simp only [Act.put, List.setIfInBounds_toArray, List.set_cons_zero, List.set_cons_succ, i64_w, i32_w]
                        rfl
                      refine one_ (i := 9) (N := some 22) #[true, true, true, true, true, true, true, true, true, true, false, false] rfl rfl (by kernel_rfl) (by decide) (fun K hK => ?_)
                      refine value_ (w1 := w5.alloc (.cells #[.int .i64 0, .int .i64 0, .int .i64 0, .int .i64 0] 60)) (v := .pointer (some ⟨w5.heap.size, 0, none⟩)) (by rfl) rfl ?_ ?_
                      · go_simp
                      refine hK.out _ _ (hHeld2.alloc hHeld2.size _) (fun hHeld3 => ?_)
                      clear hK K
                      have hzb := blk_new w5 (.cells #[.int .i64 0, .int .i64 0, .int .i64 0, .int .i64 0] 60)
                      generalize w5.alloc (.cells #[.int .i64 0, .int .i64 0, .int .i64 0, .int .i64 0] 60) = wz at hzb hHeld3 ⊢
                      obtain ⟨gx, hgx⟩ : ∃ y, y = w5.heap.size := ⟨_, rfl⟩
                      rw [← hgx] at hzb ⊢
                      have hgr4 : wr.heap.size ≤ gx := by rw [hgx]; first | exact hHeld2.size | exact hHeld.size
                      clear hgx
                      have z0 : wz.cell? ⟨gx, 0, none⟩ = some (.int .i64 0) := (blk_cell hzb 0).trans rfl
                      have z1 : wz.cell? ⟨gx, 1, none⟩ = some (.int .i64 0) := (blk_cell hzb 1).trans rfl
                      have z2 : wz.cell? ⟨gx, 2, none⟩ = some (.int .i64 0) := (blk_cell hzb 2).trans rfl
                      have z3 : wz.cell? ⟨gx, 3, none⟩ = some (.int .i64 0) := (blk_cell hzb 3).trans rfl
                      have y0 := blk_frozen hzb 0
                      have y1 := blk_frozen hzb 1
                      have y2 := blk_frozen hzb 2
                      have y3 := blk_frozen hzb 3
                      refine norm_ (a' := ?_) ?_ ?_
                      rotate_left
                      · show Act.put _ (some 22) _ = _
                        simp only [Act.put, List.setIfInBounds_toArray, List.set_cons_zero, List.set_cons_succ]
                        rfl
                      refine one_ (i := 10) (N := none) #[true, true, true, true, true, true, true, true, true, true, true, false] rfl rfl (by kernel_rfl) (by decide) (fun K hK => ?_)
                      refine skip_ (w1 := (((wz.setCell ⟨gx, 0, none⟩ (.int .i64 x.f0)).setCell ⟨gx, 1, none⟩ (.int .i64 x.f1)).setCell ⟨gx, 2, none⟩ (.int .i64 x.f2)).setCell ⟨gx, 3, none⟩ (.int .i64 x.f3)) (by rfl) rfl ?_ ?_
                      · go_simp
                      refine hK.out _ _ (((((hHeld3.setCell hgr4 _).setCell hgr4 _).setCell hgr4 _).setCell hgr4 _)) (fun hHeld9 => ?_)
                      clear hK K
                      refine pure_ (i := 11) (N := some 23) (v := ?_) (a' := ?_) #[true, true, true, true, true, true, true, true, true, true, true, true] rfl rfl (by kernel_rfl) (fun _ _ _ h => h) (Or.inl ⟨by rfl, ?_⟩) ?_ ?_
                      rotate_left
                      · intro w'
                        go_simp
                        with_reducible rfl
                      rotate_left
                      · simp only [Act.put, List.setIfInBounds_toArray, List.set_cons_zero, List.set_cons_succ, i64_w, i32_w]
                        rfl
                      refine done_ (by kernel_rfl) ?_
                      go_wp2
                      go_meet
                      case rel => exact ⟨gx, rfl, rfl, ⟨four_put hzb _ _ _ _⟩, hgr4, ⟨hHeld9⟩⟩
                    · refine value_ (w1 := wd.alloc (.cells #[.int .i64 0, .int .i64 0, .int .i64 0, .int .i64 0] 60)) (v := .pointer (some ⟨wd.heap.size, 0, none⟩)) (by rfl) rfl ?_ ?_
                      · go_simp
                      refine hK.out _ _ (hHeld.alloc hHeld.size _) (fun hHeld2 => ?_)
                      clear hK K
                      have hzb0 := blk_new wd (.cells #[.int .i64 0, .int .i64 0, .int .i64 0, .int .i64 0] 60)
                      generalize wd.alloc (.cells #[.int .i64 0, .int .i64 0, .int .i64 0, .int .i64 0] 60) = wy at hzb0 hHeld2 ⊢
                      refine norm_ (a' := ?_) ?_ ?_
                      rotate_left
                      · show Act.put _ (some 22) _ = _
                        simp only [Act.put, List.setIfInBounds_toArray, List.set_cons_zero, List.set_cons_succ]
                        rfl
                      refine one_ (i := 5) (N := some 152) #[true, true, true, true, true, true, false, false, false, true, false, false] rfl rfl (by kernel_rfl) (by decide) (fun K hK => ?_)
                      refine goes_ Try.func28 (by kernel_rfl) rfl #[.agg #[.slice P0 (machL l1).length k0, .slice P1 seats.length k1, .slice P2 F.length k2, .slice P3 S.length k3], .int .i64 x.f0] (by rfl) rfl rfl (by (try simp only [List.map_toArray, List.map_cons, List.map_nil]); first | done | rfl) ?_
                      refine (sequence_Find.calls P0 k0 (machL l1) P1 k1 seats P2 k2 F P3 k3 S x.f0 x.f0 x.f1 x.f2 x.f3 true wy (Kd.C_below HP0.out (below_then HBr.out HBr.out.size hHeld2)) hk0 (Kd.C_below HP1.out (below_then HBr.out HBr.out.size hHeld2)) hk1 (Kd.C_below HP2.out (below_then HBr.out HBr.out.size hHeld2)) hk2 (Kd.C_below HP3.out (below_then HBr.out HBr.out.size hHeld2)) hk3 HFD.out).mono ?_
                      rintro e wz ⟨rfl, hb5⟩
                      refine ⟨_, rfl, ?_⟩
                      refine hK.out _ _ (below_then hHeld2 hHeld2.size hb5) (fun hHeld3 => ?_)
                      clear hK K
                      refine pure_ (i := 6) (N := some 146) (v := ?_) (a' := ?_) #[true, true, true, true, true, true, true, false, false, true, false, false] rfl rfl (by kernel_rfl) (fun _ _ _ h => h) (Or.inl ⟨by rfl, ?_⟩) ?_ ?_
                      rotate_left
                      · intro w'
                        go_simp
                        with_reducible rfl
                      rotate_left
                      · simp only [Act.put, List.setIfInBounds_toArray, List.set_cons_zero, List.set_cons_succ, i64_w, i32_w]
                        rfl
                      refine pure_ (i := 7) (N := some 153) (v := ?_) (a' := ?_) #[true, true, true, true, true, true, true, true, false, true, false, false] rfl rfl (by kernel_rfl) (fun _ _ _ h => h) (Or.inl ⟨by rfl, ?_⟩) ?_ ?_
                      rotate_left
                      · intro w'
                        go_simp
                        with_reducible rfl
                      rotate_left
                      · simp only [Act.put, List.setIfInBounds_toArray, List.set_cons_zero, List.set_cons_succ, i64_w, i32_w]
                        rfl
                      refine pure_ (i := 8) (N := some 154) (v := ?_) (a' := ?_) #[true, true, true, true, true, true, true, true, true, true, false, false] rfl rfl (by kernel_rfl) (fun _ _ _ h => h) (Or.inl ⟨by rfl, ?_⟩) ?_ ?_
                      rotate_left
                      · intro w'
                        go_simp
                        with_reducible rfl
                      rotate_left
                      · simp only [Act.put, List.setIfInBounds_toArray, List.set_cons_zero, List.set_cons_succ, i64_w, i32_w]
                        rfl
                      have hzb := blk_below hzb0 hb5
                      obtain ⟨gx, hgx⟩ : ∃ y, y = wd.heap.size := ⟨_, rfl⟩
                      rw [← hgx] at hzb ⊢
                      have hgr4 : wr.heap.size ≤ gx := by rw [hgx]; first | exact hHeld2.size | exact hHeld.size
                      clear hgx
                      have z0 : wz.cell? ⟨gx, 0, none⟩ = some (.int .i64 0) := (blk_cell hzb 0).trans rfl
                      have z1 : wz.cell? ⟨gx, 1, none⟩ = some (.int .i64 0) := (blk_cell hzb 1).trans rfl
                      have z2 : wz.cell? ⟨gx, 2, none⟩ = some (.int .i64 0) := (blk_cell hzb 2).trans rfl
                      have z3 : wz.cell? ⟨gx, 3, none⟩ = some (.int .i64 0) := (blk_cell hzb 3).trans rfl
                      have y0 := blk_frozen hzb 0
                      have y1 := blk_frozen hzb 1
                      have y2 := blk_frozen hzb 2
                      have y3 := blk_frozen hzb 3
                      refine one_ (i := 10) (N := none) #[true, true, true, true, true, true, true, true, true, true, true, false] rfl rfl (by kernel_rfl) (by decide) (fun K hK => ?_)
                      refine skip_ (w1 := (((wz.setCell ⟨gx, 0, none⟩ (.int .i64 x.f0)).setCell ⟨gx, 1, none⟩ (.int .i64 x.f1)).setCell ⟨gx, 2, none⟩ (.int .i64 x.f2)).setCell ⟨gx, 3, none⟩ (.int .i64 x.f3)) (by rfl) rfl ?_ ?_
                      · go_simp
                      refine hK.out _ _ (((((hHeld3.setCell hgr4 _).setCell hgr4 _).setCell hgr4 _).setCell hgr4 _)) (fun hHeld9 => ?_)
                      clear hK K
                      refine pure_ (i := 11) (N := some 23) (v := ?_) (a' := ?_) #[true, true, true, true, true, true, true, true, true, true, true, true] rfl rfl (by kernel_rfl) (fun _ _ _ h => h) (Or.inl ⟨by rfl, ?_⟩) ?_ ?_
                      rotate_left
                      · intro w'
                        go_simp
                        with_reducible rfl
                      rotate_left
                      · simp only [Act.put, List.setIfInBounds_toArray, List.set_cons_zero, List.set_cons_succ, i64_w, i32_w]
                        rfl
                      refine done_ (by kernel_rfl) ?_
                      go_wp2
                      go_meet
                      case rel => exact ⟨gx, rfl, rfl, ⟨four_put hzb _ _ _ _⟩, hgr4, ⟨hHeld9⟩⟩
                  case rest =>
                    obtain ⟨gx, rfl, rfl, HXB, hgxr, HBc⟩ := hcut
                    have HBy := Aside0.mk (below_then HBr.out HBr.out.size HBc.out)
                    have HSr0 := Aside0.mk (Kd.S_below HS.out HBc.out)
                    have HTr0 := Aside0.mk (Kd.S_below HT.out HBc.out)
                    have HCEy := Aside0.mk ((HBc.out.cell (World.block_lt_of_cell? _ _ HCE.out)).trans HCE.out)
                    have hgx : N2 ≤ wc.heap.size := Nat.le_trans hgr HBc.out.size
                    have hcx : wc.cell? ⟨gx, 3, none⟩ = some (.int .i64 q) := by rw [HQ.out]; exact (blk_cell HXB.out 3).trans rfl
                    have hq2' : ¬ (q < 0) := by have := of_eq_true pq0; omega
                    have hq3' : ¬ (((machL l1).length : Int) ≤ q) := by have := of_eq_true pq1; omega
                    clear HS HT HB HCE HBc pc0 pc1 pc2 pc3 hxi HBr
                    go_upto_region 31 with fail
                    have HBr := HBy
                    obtain ⟨oki, ce, hcl, hM, hcc, hfr, hoki, hH⟩ := Kd.S_elem HTr0.out ([] : List Int) q (of_eq_true pq0) (of_eq_true pq1)
                    obtain ⟨ve, rfl, hRe⟩ := hM
                    have hcv := hcc 0 _ rfl
                    simp only [Nat.add_zero, show (Kd.slice 3 (Kd.int .i64)).sz = 1 from rfl, Nat.mul_one] at hcv
                    have hrow : rows.getD q.toNat [] = rd_L4 rows q := rfl
                    rw [hrow] at hRe
                    clear hrow
                    generalize rd_L4 rows q = row at hRe HLR HROW
                    have hlr := HLR.out
                    have hnx : some gx ≠ ve.ownBlock := Kd.R_ne hRe HXB.out (by decide)
                    have hnv : some g2 ≠ ve.ownBlock := fun h => (hoki g2 (hRe.1 _ h.symm)).2 rfl
                    have HTx := Aside0.mk (show ∀ k, ve.ownBlock = some k → N2 ≤ k from fun k hk => by have h1 := hoki k (hRe.1 _ hk); rcases h1.1 with h2 | h2; exact absurd h2 h1.2; exact h2)
                    have hH2 : Kd.H (Kd.slice 3 (Kd.int .i64)) 24 wc W12.heap.size (fun k => k = g2 ∨ N2 ≤ k) (.slice (some ⟨g2, 0, none⟩) (machL l1).length cap2) rows q (fun k => oki k ∨ (k = g2 ∨ N2 ≤ k) ∧ wc.heap.size ≤ k) [ve] := Kd.H_widen hH
                    have hRe2 : Kd.R (Kd.int .i64) 3 wc W12.heap.size (fun k => oki k ∨ (k = g2 ∨ N2 ≤ k) ∧ wc.heap.size ≤ k) ve row := Kd.R_mono hRe (fun k hk => Or.inl hk)
                    have hfr2 : ∀ k, wc.heap.size ≤ k → (fun k => oki k ∨ (k = g2 ∨ N2 ≤ k) ∧ wc.heap.size ≤ k) k := fun k hk => .inr ⟨.inr (by omega), hk⟩
                    generalize (fun k => oki k ∨ (k = g2 ∨ N2 ≤ k) ∧ wc.heap.size ≤ k) = oki2 at hH2 hRe2 hfr2
                    have HH2 := Aside0.mk hH2
                    have HRE2 := Aside0.mk hRe2
                    have HFR2 := Aside0.mk hfr2
                    clear hH2 hRe2 hcl hcc hfr hoki hH hRe HTr0 hfr2 hq2' hq3'
                    refine start_ (n := 13) (S := fun w' => w'.cell? ⟨gx, 3, none⟩ = some (.int .i64 q) ∧ w'.cell? ⟨g2, q.toNat, none⟩ = some ve) (ds := [12]) #[false, false, false, false, false, false, false, false, false, false, false, false, false] (by kernel_rfl) rfl rfl ⟨hcx, hcv⟩ (fun hHeld => ?_)
                    refine pure_ (i := 0) (N := some 165) (v := ?_) (a' := ?_) #[true, false, false, false, false, false, false, false, false, false, false, false, false] rfl rfl (by kernel_rfl) (fun _ _ _ h => h) (Or.inl ⟨by rfl, ?_⟩) ?_ ?_
                    rotate_left
                    · intro w'
                      go_simp
                      with_reducible rfl
                    rotate_left
                    · simp only [Act.put, List.setIfInBounds_toArray, List.set_cons_zero, List.set_cons_succ, i64_w, i32_w]
                      rfl
                    refine pure_ (i := 1) (N := some 166) (v := ?_) (a' := ?_) #[true, true, false, false, false, false, false, false, false, false, false, false, false] rfl rfl (by kernel_rfl) (fun _ _ _ h => h) (Or.inl ⟨by rfl, ?_⟩) ?_ ?_
                    rotate_left
                    · intro w'
                      go_simp
                      with_reducible rfl
                    rotate_left
                    · simp only [Act.put, List.setIfInBounds_toArray, List.set_cons_zero, List.set_cons_succ, i64_w, i32_w]
                      rfl
                    refine take_ (i := 2) (N := some 167) (v := ?_) (a' := ?_) #[true, true, true, false, false, false, false, false, false, false, false, false, false] rfl rfl (by kernel_rfl) (fun _ _ _ h => h) (Or.inl ⟨by rfl, ?_⟩) hHeld ?_ ?_
                    rotate_left
                    · rintro w' ⟨s0, s1⟩
                      go_simp
                      with_reducible rfl
                    rotate_left
                    · simp only [Act.put, List.setIfInBounds_toArray, List.set_cons_zero, List.set_cons_succ, i64_w, i32_w]
                      rfl
                    refine pure_ (i := 3) (N := some 168) (v := ?_) (a' := ?_) #[true, true, true, true, false, false, false, false, false, false, false, false, false] rfl rfl (by kernel_rfl) (fun _ _ _ h => h) (Or.inl ⟨by rfl, ?_⟩) ?_ ?_
                    rotate_left
                    · intro w'
                      go_simp
                      with_reducible rfl
                    rotate_left
                    · simp only [Act.put, List.setIfInBounds_toArray, List.set_cons_zero, List.set_cons_succ, i64_w, i32_w]
                      rfl
                    refine pure_ (i := 4) (N := some 169) (v := ?_) (a' := ?_) #[true, true, true, true, true, false, false, false, false, false, false, false, false] rfl rfl (by kernel_rfl) (fun _ _ _ h => h) (Or.inl ⟨by rfl, ?_⟩) ?_ ?_
                    rotate_left
                    · intro w'
                      go_simp
                      with_reducible rfl
                    rotate_left
                    · simp only [Act.put, List.setIfInBounds_toArray, List.set_cons_zero, List.set_cons_succ, i64_w, i32_w]
                      rfl
                    refine take_ (i := 5) (N := some 170) (v := ?_) (a' := ?_) #[true, true, true, true, true, true, false, false, false, false, false, false, false] rfl rfl (by kernel_rfl) (fun _ _ _ h => h) (Or.inl ⟨by rfl, ?_⟩) hHeld ?_ ?_
                    rotate_left
                    · rintro w' ⟨s0, s1⟩
                      go_simp
                      with_reducible rfl
                    rotate_left
                    · simp only [Act.put, List.setIfInBounds_toArray, List.set_cons_zero, List.set_cons_succ, i64_w, i32_w]
                      rfl
                    refine pure_ (i := 6) (N := some 171) (v := ?_) (a' := ?_) #[true, true, true, true, true, true, true, false, false, false, false, false, false] rfl rfl (by kernel_rfl) (fun _ _ _ h => h) (Or.inl ⟨by rfl, ?_⟩) ?_ ?_
                    rotate_left
                    · intro w'
                      go_simp
                      with_reducible rfl
                    rotate_left
                    · simp only [Act.put, List.setIfInBounds_toArray, List.set_cons_zero, List.set_cons_succ, i64_w, i32_w]
                      rfl
                    refine take_ (i := 7) (N := some 172) (v := ?_) (a' := ?_) #[true, true, true, true, true, true, true, true, false, false, false, false, false] rfl rfl (by kernel_rfl) (fun _ _ _ h => h) (Or.inl ⟨by rfl, ?_⟩) hHeld ?_ ?_
                    rotate_left
                    · rintro w' ⟨s0, s1⟩
                      go_simp
                      with_reducible rfl
                    rotate_left
                    · simp only [Act.put, List.setIfInBounds_toArray, List.set_cons_zero, List.set_cons_succ, i64_w, i32_w]
                      rfl
                    refine pure_ (i := 8) (N := some 173) (v := ?_) (a' := ?_) #[true, true, true, true, true, true, true, true, true, false, false, false, false] rfl rfl (by kernel_rfl) (fun _ _ _ h => h) (Or.inl ⟨by rfl, ?_⟩) ?_ ?_
                    rotate_left
                    · intro w'
                      go_simp
                      with_reducible rfl
                    rotate_left
                    · simp only [Act.put, List.setIfInBounds_toArray, List.set_cons_zero, List.set_cons_succ, i64_w, i32_w]
                      rfl
                    refine one_ (i := 9) (N := some 174) #[true, true, true, true, true, true, true, true, true, true, false, false, false] rfl rfl (by kernel_rfl) (by decide) (fun K hK => ?_)
                    refine value_ (w1 := wc.drew.alloc (.cells #[.int .i64 iv] 3)) (v := .slice (some ⟨wc.heap.size, 0, none⟩) 1 1) (by rfl) rfl ?_ ?_
                    · go_simp
                    refine hK.out _ _ ⟨((below_alloc (Below.refl _ wc.drew) _).cell (World.block_lt_of_cell? _ _ hHeld.1)).trans hHeld.1, ((below_alloc (Below.refl _ wc.drew) _).cell (World.block_lt_of_cell? _ _ hHeld.2)).trans hHeld.2⟩ (fun hHeld2 => ?_)
                    clear hK K
                    refine norm_ (a' := ?_) ?_ ?_
                    rotate_left
                    · show Act.put _ (some 174) _ = _
                      simp only [Act.put, List.setIfInBounds_toArray, List.set_cons_zero, List.set_cons_succ]
                      rfl
                    refine one_ (i := 10) (N := some 175) #[true, true, true, true, true, true, true, true, true, true, true, false, false] rfl rfl (by kernel_rfl) (by decide) (fun K hK => ?_)
                    refine Kd.R_append_step (Kd.int .i64) (w0 := W12) W12.heap.size (by rfl) (.tmp 172) (.tmp 174) 24 3 (.int .i64 0) 8 rfl Try.underlying24 info3 rfl (by decide) (by omega) ve row iv [.int .i64 iv] oki2 (fun _ => False) rfl rfl rfl (fun _ hk => hk.elim) HFR2.out (Kd.R_drew HRE2.out) (below_drew1 HBr.out) HBr.out.size (by omega) ?_
                    intro v6 w6 ho6 hb6 hg6 hat6
                    obtain ⟨A6, k6, e6⟩ := Kd.R_slice ho6
                    rw [List.length_append, List.length_singleton] at e6
                    have hc6x := cell_grown hg6 hHeld.1 hnx
                    have hc6v := cell_grown hg6 hHeld.2 hnv
                    refine hK.out _ _ ⟨hc6x, hc6v⟩ (fun hHeld3 => ?_)
                    clear hK K
                    refine norm_ (a' := ?_) ?_ ?_
                    rotate_left
                    · show Act.put _ (some 175) _ = _
                      simp only [Act.put, List.setIfInBounds_toArray, List.set_cons_zero, List.set_cons_succ]
                      rfl
                    have hH6 := Kd.H_grown (Kd.H_drew HH2.out) hg6 (fun k hk => HRE2.out.1 k hk)
                    have hfv := (Kd.H_at hH6 (of_eq_true pq0) (of_eq_true pq1)).2 0
                    simp only [Nat.add_zero, show (Kd.slice 3 (Kd.int .i64)).sz = 1 from rfl, Nat.mul_one] at hfv
                    subst e6
                    refine pure_ (i := 11) (N := some 176) (v := ?_) (a' := ?_) #[true, true, true, true, true, true, true, true, true, true, true, true, false] rfl rfl (by kernel_rfl) (fun _ _ _ h => h) (Or.inl ⟨by rfl, ?_⟩) ?_ ?_
                    rotate_left
                    · intro w'
                      go_simp
                      with_reducible rfl
                    rotate_left
                    · simp only [Act.put, List.setIfInBounds_toArray, List.set_cons_zero, List.set_cons_succ, i64_w, i32_w]
                      rfl
                    refine last_ (i := 12) (N := none) #[true, true, true, true, true, true, true, true, true, true, true, true, true] rfl rfl (by kernel_rfl) (by decide) (fun K hK => ?_)
                    refine skip_ (w1 := w6.setCell ⟨g2, q.toNat, none⟩ (.slice A6 (row.length + 1) k6)) (by rfl) rfl ?_ ?_
                    · go_simp
                    refine hK.out _ _ ?_
                    clear hK K
                    refine done_ (by kernel_rfl) ?_
                    go_wp2
                    have hS7 := (Kd.S_seg0 hH6 (of_eq_true pq0) (of_eq_true pq1) (seg := [.slice A6 (row.length + 1) k6]) (j := 0) (Nat.le_refl 1) ⟨_, rfl, ho6⟩ (fun _ hk => hk)).1
                    simp only [World.setCells, Nat.add_zero, show (Kd.slice 3 (Kd.int .i64)).sz = 1 from rfl, Nat.mul_one] at hS7
                    have HS7 := Aside0.mk hS7
                    clear hS7
                    go_roundw
                    case rel =>
                      refine ⟨j + 1, by omega, by go_num, ⟨?_⟩, ⟨?_⟩, ⟨?_⟩, ?_, ⟨?_⟩⟩
                      · exact Kd.S_far (p := ⟨g2, q.toNat, none⟩) (Kd.S_grown (Kd.S_drew HSr0.out) hg6 (fun k hk h => by have := HTx.out k h.symm; omega)) (fun k hk => hk.1) _
                      · rw [← HRS'.out, HROW.out]
                        exact HS7.out
                      · exact hb6.setCell hg2b _
                      · have := hg6.size
                        simp only [World.setCell, Array.size_modify]
                        exact Nat.le_trans hgx this
                      · have h1 : w6.cell? ⟨g1, k, none⟩ = some (.slice (some adf) rowk.length fa) := cell_grown hg6 HCEy.out (fun h => by have := HTx.out g1 h.symm; omega)
                        exact (World.cell?_of_block (w := w6) (Below.heap_setCell w6 ⟨g2, q.toNat, none⟩ _ g1 hne12)).trans h1
                    case measure => simp [intOf]; omega
                · have hje : rowk.take j = rowk := List.take_of_length_le (by omega)
                  have HTz := Aside0.mk (show Kd.S (Kd.slice 3 (Kd.int .i64)) 24 wr W12.heap.size (fun k => k = g2 ∨ N2 ≤ k) (.slice (some ⟨g2, 0, none⟩) (machL l1).length cap2) (passRows (machL l1).length (keySecond seats items) (r1.take (k + 1)).flatten) by
                    have h := HT.out
                    rw [hje, ← HFT.out] at h
                    exact h)
                  clear hje HT
                  go_wp2
                  go_roundw
                  case rel => exact ⟨k + 1, by omega, by go_num, HS, HTz, HB, hgr⟩
                  case measure => simp [intOf]; omega
            · have hk' : (r1.take k).flatten = r1.flatten := by rw [List.take_of_length_le (by rw [HL1.out]; omega)]
              have hrr : passRows (machL l1).length (keySecond seats items) (r1.take k).flatten = r2 := by rw [hk', HR2E.out, HR1E.out]; rfl
              have HTe := Aside0.mk (show Kd.C (Kd.slice 3 (Kd.int .i64)) wr (some ⟨g2, 0, none⟩) (machL l1).length r2 from by
                have h := (Kd.S_reads' HT.out).2.2
                rw [hrr, HL2.out] at h
                exact h)
              have hte := (Kd.S_reads' HT.out).2.1
              have hr2l : r2.flatten.length ≤ 2000 := by
                have h1 := HRUN.out.all2
                have h2 := HRUN.out.perm.length_eq
                rw [upTo_len] at h2
                rw [h1]
                omega
              have HR2L := Aside0.mk hr2l
              have HCAP := Aside0.mk (show (machL l1).length ≤ cap2 from hte)
              clear HT hk' hrr hte hr2l HS
              go_wp2
              clear hk hlt
              go_loopw [24, 181] (fun v i wq => ∃ k : Nat, k ≤ (machL l1).length ∧ i = .int .i64 k ∧ Aside0 (Kd.R (Kd.int .i64) 3 wq wr.heap.size (fun _ => True) v (r2.take k).flatten) ∧ Aside0 (Below wr.heap.size wr wq))
                (fun _ i _ => (machL l1).length - (intOf i).toNat)
              case atStart => exact ⟨0, Nat.zero_le _, rfl, ⟨by rw [List.take_zero]; exact Kd.R_nil _ _ _ _ _⟩, ⟨Below.refl _ _⟩⟩
              case round =>
                obtain ⟨k, hk, rfl, HO, HBq⟩ := hrel
                by_cases hlt : k < (machL l1).length
                · obtain ⟨ad, Sa, ca, e1, hsa, hsa1, hSa⟩ := at_L4 (Kd.C_below HTe.out HBq.out) (k : Int) (by omega) (by omega)
                  injection e1 with e1
                  subst e1
                  simp only [Int.toNat_natCast, add_plain] at hsa
                  have hft := flat_take_r r2 k (by rw [HL2.out]; exact hlt)
                  have hfl := flat_le r2 (k + 1)
                  have hr2l := HR2L.out
                  rw [hft, List.length_append] at hfl
                  have HFL := Aside0.mk hfl
                  have HFT := Aside0.mk hft
                  have HSA := Aside0.mk hSa
                  have hal : ((r2.take k).flatten.length + (rd_L4 r2 (k : Int)).length) * 8 ≤ 140737488355328 := by omega
                  have HAL := Aside0.mk hal
                  clear hfl hft hSa hr2l hal
                  go_wp2_with (first | ((with_reducible refine gate_builtin (b := .append) (xs := #[.tmp 184, .tmp 188]) rfl ?_); at_builtin; refine Kd.R_append_rows (Kd.int .i64) (w0 := _) _ rfl (.tmp 184) (.tmp 188) 24 3 (.int .i64 0) 8 rfl Try.underlying24 info3 rfl (by decide) (by omega) u24 ((r2.take k).flatten) (rd_L4 r2 (k : Int)) _ _ _ (fun _ => True) (fun _ => False) rfl rfl HO.out HSA.out (fun _ _ h => h) (fun _ h => h.elim) (fun _ _ => trivial) HBq.out HBq.out.size HAL.out ?_; intro v9 w9q ho hb hg hat; have HO9 := Aside0.mk ho; have HB9q := Aside0.mk hb; clear ho hb hg hat))
                  go_roundw
                  case rel => exact ⟨k + 1, by omega, by go_num, ⟨by rw [HFT.out]; exact HO9.out⟩, HB9q⟩
                  case measure => simp [intOf]; omega
                · have he : (r2.take k).flatten = ord := by rw [List.take_of_length_le (by rw [HL2.out]; omega), HORD.out]
                  rw [he] at HO
                  obtain ⟨A24, c24, rfl, hc24, hC24⟩ := row_get HO.out
                  have HC24 := Aside0.mk hC24
                  have HTq := Aside0.mk (Kd.C_below HTe.out HBq.out)
                  have hBq := below_then HB.out HB.out.size HBq.out
                  have HC1q := Aside0.mk (Kd.C_below HC1.out hBq)
                  have HC2q := Aside0.mk (Kd.C_below HC2.out hBq)
                  have hrb := blk_below HRB.out hBq
                  have HBw := Aside0.mk (below_then HB12.out HB12.out.size hBq)
                  have rc1 : wr.cell? ⟨gr, 1, none⟩ = some (.slice R1 (machL l1).length j1) := (blk_cell hrb 1).trans rfl
                  have rc2 : wr.cell? ⟨gr, 2, none⟩ = some (.slice R2 ord.length j2) := (blk_cell hrb 2).trans rfl
                  have hLI := lists_f r2 64 2000 (by rw [HL2.out]; exact hb2) (fun i => Nat.le_trans (row_le_flat r2 _) HR2L.out) (by omega) 100000 (by omega)
                  have hSI := same_f ord (by rw [HORD.out]; exact Nat.le_trans HR2L.out (by omega)) 100000 (by rw [HORD.out]; exact Nat.lt_of_le_of_lt HR2L.out (by omega))
                  have HLI := Aside0.mk hLI
                  have HSI := Aside0.mk hSI
                  clear hBq hrb hLI hSI hC24 he HO HBq HTe
                  go_wp2_with (first
                    | ((with_reducible refine gate_dst (N := 194) rfl ?_); go_must (refine goesL_ (some 194) rfl rfl Try.func30 (by kernel_rfl) rfl #[.slice R1 (machL l1).length j1, .slice (some ⟨g2, 0, none⟩) (machL l1).length cap2] rfl (by (try simp only [List.map_toArray, List.map_cons, List.map_nil]); first | done | rfl) ?_; refine (show Calls Try.prog 30 #[.slice R1 (machL l1).length j1, .slice (some ⟨g2, 0, none⟩) (machL l1).length cap2] _ _ from by have h := letterbaglaw28_lists.calls 100000 R1 j1 r2 (some ⟨g2, 0, none⟩) cap2 r2 true wr HC1q.out (by rw [HL2.out]; exact hj1) (by rw [HL2.out]; exact HTq.out) (by rw [HL2.out]; exact HCAP.out) HLI.out; rw [HL2.out] at h; exact h).mono ?_)
                       rintro e wx ⟨rfl, hd⟩
                       refine ⟨_, rfl, ?_⟩
                       have HDx := Aside0.mk hd.below
                       have rc2' := (hd.below.cell (World.block_lt_of_cell? _ _ rc2)).trans rc2
                       clear hd)
                    | ((with_reducible refine gate_dst (N := 199) rfl ?_); go_must ((try (refine gate_guard (by rfl) ?_; dsimp only)); refine goesL_ (some 199) rfl rfl Try.func21 (by kernel_rfl) rfl #[.slice R2 ord.length j2, .slice A24 ord.length c24] rfl (by (try simp only [List.map_toArray, List.map_cons, List.map_nil]); first | done | rfl) ?_; refine (letterbagkit_SameInts.calls 100000 R2 j2 ord A24 c24 ord true wx (Kd.C_below HC2q.out HDx.out) hj2 (Kd.C_below HC24.out HDx.out) hc24 HSI.out).mono ?_)
                       rintro e wy ⟨rfl, hd⟩
                       refine ⟨_, rfl, ?_⟩
                       have HDy := Aside0.mk (below_then HDx.out HDx.out.size hd.below)
                       clear hd)
                    | go_in)
                  go_ret
                  exact ⟨rfl, below_then HBw.out HBw.out.size HDy.out⟩
theorem passes_walk (a0 : Option Addr) (len0 cap0 : Nat) (z0 : List Int) (a1 : Option Addr) (len1 cap1 : Nat) (z1 : List Int) (a2 : Option Addr) (len2 cap2 : Nat) (z2 : List Int) (w : World) (w0 : (a0 = none ∧ len0 = 0 ∧ cap0 = 0 ∧ z0 = []) ∨ ∃ x, a0 = some x ∧ len0 ≤ cap0 ∧ cap0 ≤ maxLen ∧ z0.length = cap0 ∧ (∀ i, i < z0.length → w.cell? (x.add i) = some (.int .u8 (z0.getD i 0))) ∧ ∀ n ∈ z0, (Lit.int .u8 n).wf = true) (y0 : len0 * 1 ≤ 140737488351232) (w1 : (a1 = none ∧ len1 = 0 ∧ cap1 = 0 ∧ z1 = []) ∨ ∃ x, a1 = some x ∧ len1 ≤ cap1 ∧ cap1 ≤ maxLen ∧ z1.length = cap1 ∧ (∀ i, i < z1.length → w.cell? (x.add i) = some (.int .u8 (z1.getD i 0))) ∧ ∀ n ∈ z1, (Lit.int .u8 n).wf = true) (y1 : len1 * 1 ≤ 140737488351232) (w2 : (a2 = none ∧ len2 = 0 ∧ cap2 = 0 ∧ z2 = []) ∨ ∃ x, a2 = some x ∧ len2 ≤ cap2 ∧ cap2 ≤ maxLen ∧ z2.length = cap2 ∧ (∀ i, i < z2.length → w.cell? (x.add i) = some (.int .u8 (z2.getD i 0))) ∧ ∀ n ∈ z2, (Lit.int .u8 n).wf = true) (y2 : len2 * 1 ≤ 140737488351232) :
    Calls Try.prog 10 #[.slice a0 len0 cap0, .slice a1 len1 cap1, .slice a2 len2 cap2] w fun e w' => e = .returned (.bool true) ∧ Below w.heap.size w w' := by
  obtain ⟨l0, rfl, hr0, hm0, hw0, hc0⟩ := ReadsInt.ofRowC w0
  obtain ⟨l1, rfl, hr1, hm1, hw1, hc1⟩ := ReadsInt.ofRowC w1
  obtain ⟨l2, rfl, hr2, hm2, hw2, hc2⟩ := ReadsInt.ofRowC w2
  exact passes_calls _ _ l0 _ _ l1 _ _ l2 w (Kd.C_of_reads (d := (0 : Int)) (h1 := fun _ => rfl) hr0) hc0 (Kd.C_of_reads (d := (0 : Int)) (h1 := fun _ => rfl) hr1) hc1 (Kd.C_of_reads (d := (0 : Int)) (h1 := fun _ => rfl) hr2) hc2 hw0 hw1 hw2 (by omega) (by omega)
end Go.Proofs.Ytbhcchcjmgfpiaa.Print
