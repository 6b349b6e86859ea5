/- SequenceWrong: the law answers true for every input. By hand. -/
import Derived.Test.YtbhcchcjmgfpiaaGv
import Derived.Test.YtbhcchcjmgfpiaaPrint22
import Derived.Test.YtbhcchcjmgfpiaaPrint23
import Derived.Test.YtbhcchcjmgfpiaaGd
import Derived.Test.YtbhcchcjmgfpiaaGe
import Derived.Test.YtbhcchcjmgfpiaaGs
import Derived.Test.YtbhcchcjmgfpiaaGw
import Derived.Deep.DeepMust
namespace Go.Proofs.Ytbhcchcjmgfpiaa.Print
open Go.RowKit Go.Proofs.YtbhcchcjmgfpiaaW.PrintWords Go.Proofs.YtbhcchcjmgfpiaaW.PrintLast Go.Proofs.YtbhcchcjmgfpiaaW.PrintMore
set_option linter.unusedVariables false
set_option linter.unusedSimpArgs false

theorem row_get {α : Type} {d : Kd α} {e : Nat} {w : World} {base : Nat} {ok : Nat → Prop} {v : Value} {xs : List α} (h : d.R e w base ok v xs) : ∃ A c, v = .slice A xs.length c ∧ xs.length ≤ c ∧ d.C w A xs.length xs := by
  obtain ⟨A, c, rfl⟩ := Kd.R_slice h
  exact ⟨A, c, rfl, (Kd.R_reads' h).2.1, (Kd.R_reads' h).2.2⟩
theorem C_nil {α : Type} (d : Kd α) (w : World) : d.C w none ([] : List α).length [] := (Kd.R_reads' (Kd.R_nil d 0 w 0 (fun _ => True))).2.2

section
variable {P : Program} {ops : Array Oper} {o : Oper} {a : Act} {Q : Exit → Act → World → Prop} {Kc : Act → World → Prop} {α : Type}
theorem append_rows_step (d : Kd α) {Rr : α → List Value → Prop} {w0 W : World} (base : Nat) (hw : Region.wanted o (yielded ops a.tmps) = true) (s x : Operand) (t e : TypeId) (z : Value) (bytes : Nat)
    (ho : o.op = .call { callee := .builtin .append, args := #[s, x], argTypes := #[t, t] })
    (ht : P.underlying t = some (.slice e)) (hinfo : (P.info? e).map (fun i => (i.zero, i.size, i.bytes)) = some (some z, d.sz, bytes)) (hz : z.cells.size = d.sz) (hs0 : 0 < d.sz) (hb0 : 0 < bytes)
    (v : Value) (xs ys : List α) (A : Option Addr) (m c : Nat) (ok okp : Nat → Prop) (hs : a.eval s = v) (hx : a.eval x = .slice A m c)
    (HO : d.R e W base ok v xs) (HR : ReadsRow Rr d.sz W A m ys) (hKM : ∀ x cs, Rr x cs → d.M W base okp x cs) (hokp : ∀ k, okp k → ok k ∧ some k ≠ v.ownBlock) (hfresh : ∀ k, W.heap.size ≤ k → ok k)
    (HB : Below base w0 W) (hbase : base ≤ W.heap.size) (hl : (xs.length + m) * bytes ≤ 140737488355328)
    (h : ∀ v1 w1, d.R e w1 base ok v1 (xs ++ ys) → Below base w0 w1 → W.grownBy w1 v.ownBlock → (v1.ownBlock = v.ownBlock ∨ ∃ b, v1.ownBlock = some b ∧ W.heap.size ≤ b) → Kc (a.put o.dst v1) w1) :
    if Region.wanted o (yielded ops a.tmps) = true then Oper.wp P o a W Kc Q else Kc (a.put o.dst undef) W := by
  obtain ⟨i0, hi, hzz⟩ := Option.map_eq_some_iff.1 hinfo
  simp only [Prod.mk.injEq] at hzz
  obtain ⟨hz0, hz1, hz2⟩ := hzz
  have hm : ys.length = m := HR.1
  have hlen : xs.length + m ≤ 140737488355328 := Nat.le_trans (Nat.le_mul_of_pos_right _ hb0) hl
  obtain ⟨hok, inner, hown, hr⟩ := HO
  have hrun : ∃ v1 w1, (Builtin.append_ #[t, t] o.type #[v, .slice A m c]).run P W = .ok v1 w1 ∧ d.R e w1 base ok v1 (xs ++ ys) ∧ W.grownBy w1 v.ownBlock ∧ (v1.ownBlock = v.ownBlock ∨ ∃ b, v1.ownBlock = some b ∧ W.heap.size ≤ b) := by
    rcases A with _ | ad
    · have h0 : m = 0 := by
        rcases Nat.eq_zero_or_pos m with h0 | h0
        · exact h0
        · obtain ⟨ad, h, _⟩ := HR.2.2 h0
          cases h
      subst h0
      obtain rfl : ys = [] := List.eq_nil_of_length_eq_zero hm
      refine ⟨v, W, ?_, by rw [List.append_nil]; exact ⟨hok, inner, hown, hr⟩, World.grownBy.refl W _, .inl rfl⟩
      rcases hown.2 with ⟨rfl, hn⟩ | ⟨g, cap, cur, rfl, _, _, hnc, _⟩
      · simp [Builtin.append_, run_underlying ht, sizeOf, typeInfo, hi, Builtin.lenOf, Builtin.firstCells]
      · simp [Builtin.append_, run_underlying ht, sizeOf, typeInfo, hi, Builtin.lenOf, Builtin.firstCells, hnc, storeCells]
    · obtain ⟨news, hnr, hnc⟩ := ReadsRow.inner_ HR
      have hnM : Reps (d.M W base okp) d.sz ys news := hnr.imp_ (fun p c hp => hKM p c hp)
      have hone : ∀ u ∈ news, u.oneCell' = true := by
        intro u hu
        obtain ⟨q, hq, rfl⟩ := List.mem_iff_getElem.1 hu
        have hql : q / d.sz < ys.length := by
          rw [Nat.div_lt_iff_lt_mul hs0]
          rw [← hnM.1]
          exact hq
        have hc := hnM.2 (q / d.sz) _ (List.getElem?_eq_getElem hql)
        refine d.K_one (d.K_of_M hc) _ ?_
        rw [List.mem_iff_getElem?]
        refine ⟨q % d.sz, ?_⟩
        rw [List.getElem?_take, if_pos (Nat.mod_lt _ hs0), List.getElem?_drop, Nat.mul_comm, Nat.div_add_mod, List.getElem?_eq_getElem hq]
      obtain ⟨v1, w1, hrun, h2, hg, _, hat⟩ := run_append_own_at (P := P) W base t o.type e i0 z d.sz bytes ht hi hz0 hz1 hz2 hz hs0 v xs.length inner hown ad m c news (by rw [hnM.1, hm]) hnc hone (by simp only [maxLen]; omega) hl hbase
      have hat' : v1.ownBlock = v.ownBlock ∨ ∃ b, v1.ownBlock = some b ∧ W.heap.size ≤ b := by
        rcases hat with hat | hat
        · exact .inl hat
        · exact .inr ⟨_, hat, Nat.le_refl _⟩
      have hne : ∀ k, some k ≠ v.ownBlock → k < W.heap.size → some k ≠ v1.ownBlock := by
        intro k hk hlt
        rcases hat' with hat | ⟨b, hb, hle⟩
        · rw [hat]; exact hk
        · rw [hb]
          intro he
          injection he with he
          omega
      have step : ∀ {q : α} {c : List Value} {o : Nat → Prop}, d.M W base o q c → (∀ k, o k → ok k ∧ some k ≠ v.ownBlock) → d.M w1 base (fun k => ok k ∧ some k ≠ v1.ownBlock) q c := by
        intro q c o hq ho
        have h1 := d.M_move (w1 := w1) (fun k hk => hg.block k hk.2.2.1 (ho k hk.1).2) (d.M_bound hq)
        exact d.M_mono (fun k hk => ⟨(ho k hk.1).1, hne k (ho k hk.1).2 hk.2.2.1⟩) h1
      refine ⟨v1, w1, hrun, ⟨fun k hk => ?_, inner ++ news, by rw [List.length_append, hm]; exact h2, Kd.reps_append (hr.imp_ (fun _ _ hq => step hq (fun _ hk => hk))) (hnM.imp_ (fun _ _ hq => step hq hokp))⟩, hg, hat'⟩
      rcases hat' with hat | ⟨b, hb, hle⟩
      · exact hok k (hat ▸ hk)
      · rw [hb] at hk
        injection hk with hk
        exact hfresh k (by omega)
  obtain ⟨v1, w1, hr1, h1, hg, hat⟩ := hrun
  rw [if_pos hw]
  unfold Oper.wp execOp
  simp only [ho, resolve, invoke, builtin, Sem.run_bind, Sem.run_pure, Result.andThen_ok, List.map_toArray, List.map_cons, List.map_nil, hs, hx, hr1]
  exact (h v1 w1 h1 (HB.grown hg hbase (own_base hown)) hg hat)
end

set_option maxHeartbeats 16000000 in
set_option maxRecDepth 100000 in
theorem wrong_calls (A0 : Option Addr) (c0 : Nat) (l0 : List Int) (A1 : Option Addr) (c1 : Nat) (l1 : List Int) (A2 : Option Addr) (c2 : Nat) (l2 : List Int) (w : World)
    (hr0 : Kd.C (Kd.int .u8) w A0 l0.length l0) (hc0 : l0.length ≤ c0) (hr1 : Kd.C (Kd.int .u8) w A1 l1.length l1) (hc1 : l1.length ≤ c1) (hr2 : Kd.C (Kd.int .u8) w A2 l2.length l2) (hc2 : l2.length ≤ c2)
    (w0 : ∀ x ∈ l0, (Lit.int .u8 x).wf = true) (w1 : ∀ x ∈ l1, (Lit.int .u8 x).wf = true) (w2 : ∀ x ∈ l2, (Lit.int .u8 x).wf = true) (n0 : l0.length ≤ 9223372036854775807) (n1 : l1.length ≤ 9223372036854775807) :
    Calls Try.prog 8 #[.slice A0 l0.length c0, .slice A1 l1.length c1, .slice A2 l2.length c2] w fun e w' => e = .returned (.bool true) ∧ Below w.heap.size w w' := by
  have hv := rd_u8 l0 w0
  have hc := rd_u8 l1 w1
  have hf := law_fit l0 l1 hv hc
  have hcl := machL_ok l1 hc
  have hsl := routeL_len l0
  have hmc0 : sequence_machine.f (machL l1) = some true := hf.1
  have HRT := Aside0.mk (route_f l0 hv n0 10000 (by omega))
  have HMC := Aside0.mk (machine_f' l1 hc n1 10000 (by omega))
  have HE5 := Aside0.mk (make_great _ _ (more_fit l0 l1 hv hc) ⟨999999, 257⟩ (by simp) (fun c hcm => by have := (hcl.2.2 c hcm).2; simp only; omega))
  have HE3 := Aside0.mk (make_stop (routeL l0 ++ [⟨0, 0⟩]) (machL l1) hmc0 (by rw [List.length_append, hsl, List.length_singleton]; omega) (fun x hx => by
    rcases List.mem_append.1 hx with hx | hx
    · exact law_wf l0 hv x hx
    · rw [List.mem_singleton.1 hx]
      decide) ⟨0, 0⟩ (by simp) rfl)
  obtain ⟨many, hmany⟩ : ∃ y, List.replicate (1001 : Int).toNat (⟨0, 0⟩ : S27) = y := ⟨_, rfl⟩
  have HE1 := Aside0.mk (make_caps many [] rfl)
  have HE2 := Aside0.mk (make_many many (machL l1) hmc0 (by rw [← hmany, List.length_replicate]; decide))
  obtain ⟨zs, hzs⟩ : ∃ y, List.replicate (65 : Int).toNat (0 : Int) = y := ⟨_, rfl⟩
  have HE4 := Aside0.mk (make_caps [] zs (by rw [← hzs]; kernel_rfl))
  obtain ⟨dl, hdl⟩ : ∃ y, routeL l0 ++ [(⟨0, 0⟩ : S27)] = y := ⟨_, rfl⟩
  obtain ⟨gl, hgl⟩ : ∃ y, routeL l0 ++ [(⟨999999, 257⟩ : S27)] = y := ⟨_, rfl⟩
  rw [hdl] at HE3
  rw [hgl] at HE5
  have HMANY := Aside0.mk hmany
  have HZ := Aside0.mk hzs
  have HD := Aside0.mk hdl
  have HG := Aside0.mk hgl
  have HAL := Aside0.mk (show (([] : List S27).length + (routeL l0).length) * 16 ≤ 140737488355328 by rw [hsl, List.length_nil]; omega)
  have HAL1 := Aside0.mk (show ((routeL l0).length + 1) * 16 ≤ 140737488355328 by rw [hsl]; omega)
  have HR0 := Aside0.mk hr0
  have HR1 := Aside0.mk hr1
  have HR2 := Aside0.mk hr2
  have HF := Aside0.mk hf
  have HV := Aside0.mk hv
  have HCV := Aside0.mk hc
  have HW0 := Aside0.mk w0
  have HW1 := Aside0.mk w1
  have HW2 := Aside0.mk w2
  have HCL := Aside0.mk hcl
  have HSL := Aside0.mk hsl
  clear hmany hzs hdl hgl hr0 hr1 hr2 hv hc w0 w1 w2 hcl hsl hmc0
  have hu27 := Try.underlying27
  have hu60 := Try.underlying60
  have hu38 := Try.underlying38
  have hu50 := Try.underlying50
  rcases law_make (routeL l0) (machL l1) hf with hmk | ⟨m, hm, hp, hmk⟩
  · have HMK := Aside0.mk hmk
    clear hmk hf
    go_enter Try.func8, Try.ntmps8
    go_wp2_with (first
      | ((with_reducible refine gate_dst (N := 23) rfl ?_); go_must (refine goesL_ (some 23) rfl rfl Try.func19 (by kernel_rfl) rfl #[.slice A0 l0.length c0, .int .i64 9] rfl (by (try simp only [List.map_toArray, List.map_cons, List.map_nil]); first | done | rfl) ?_; refine (letterbaglaw28_route.calls 10000 A0 c0 l0 9 (routeL l0) w HR0.out hc0 HRT.out).mono ?_)
         rintro e w7 ⟨v0, rfl, ho, hb⟩
         obtain ⟨A7, c7, rfl, hc7, hC7⟩ := row_get ho
         refine ⟨_, rfl, ?_⟩
         have HB7 := Aside0.mk hb
         have HC7 := Aside0.mk hC7
         clear hb ho hC7)
      | ((with_reducible refine gate_dst (N := 25) rfl ?_); go_must (refine goesL_ (some 25) rfl rfl Try.func20 (by kernel_rfl) rfl #[.slice A1 l1.length c1] rfl (by (try simp only [List.map_toArray, List.map_cons, List.map_nil]); first | done | rfl) ?_; refine (letterbaglaw28_machine.calls 10000 A1 c1 l1 (machL l1) w7 (Kd.C_below HR1.out HB7.out) hc1 HMC.out).mono ?_)
         rintro e w8 ⟨v0, rfl, ho, hb⟩
         obtain ⟨A8, c8, rfl, hc8, hC8⟩ := row_get ho
         refine ⟨_, rfl, ?_⟩
         have HB8 := Aside0.mk (below_then HB7.out HB7.out.size hb)
         have HR7 := Aside0.mk (Kd.C_below HC7.out hb)
         have HR8 := Aside0.mk hC8
         clear hb ho hC8)
      | ((with_reducible refine gate_dst (N := 26) rfl ?_); go_must (refine Kd.R_make k27 (w0 := w8) w8.heap.size 27 rfl (N := 26) rfl 28 _ _ rfl 1001 rfl rfl Try.underlying28 (.agg #[(.int .i64 0), (.int .i64 0)]) 16 info27 rfl (by decide) (by decide) (⟨0, 0⟩ : S27) (ok := fun _ => True) (okp := fun _ => True) (k27_mkM _ _ _ _) (fun _ h => h) trivial (by decide) (by decide) (Below.refl _ _) (Nat.le_refl _) ?_)
         intro v26 W9 ho hb hg hat
         obtain ⟨A9, c9, e9, hc9, hC9⟩ := row_get ho
         subst e9
         rw [HMANY.out] at hC9 hc9 ⊢
         have HB9 := Aside0.mk hb
         have HM9 := Aside0.mk hC9
         clear hb hg hat ho hC9)
      | ((with_reducible refine gate_dst (N := 29) rfl ?_); go_must (refine goesL_ (some 29) rfl rfl Try.func16 (by kernel_rfl) rfl #[.slice A9 many.length c9, .slice none ([] : List Int).length 0] rfl (by (try simp only [List.map_toArray, List.map_cons, List.map_nil]); first | done | rfl) ?_; refine (sequence_Make.calls A9 c9 many none 0 [] [] [] [] [] 280 W9 HM9.out hc9 (C_nil _ _) (Nat.le_refl _) HE1.out).mono ?_)
         rintro e W10 ⟨v0, v1, v2, v3, rfl, ho0, ho1, ho2, ho3, hb⟩
         obtain ⟨E0, z0, rfl⟩ := Kd.R_slice ho0
         obtain ⟨E1, z1, rfl⟩ := Kd.R_slice ho1
         obtain ⟨E2, z2, rfl⟩ := Kd.R_slice ho2
         obtain ⟨E3, z3, rfl⟩ := Kd.R_slice ho3
         refine ⟨_, rfl, ?_⟩
         have HB10 := Aside0.mk (below_then HB9.out (below_size HB9.out) hb)
         have HM10 := Aside0.mk (Kd.C_below HM9.out hb)
         clear hb ho0 ho1 ho2 ho3)
      | ((with_reducible refine gate_dst (N := 35) rfl ?_); go_must (refine goesL_ (some 35) rfl rfl Try.func16 (by kernel_rfl) rfl #[.slice A9 many.length c9, .slice A8 (machL l1).length c8] rfl (by (try simp only [List.map_toArray, List.map_cons, List.map_nil]); first | done | rfl) ?_; refine (sequence_Make.calls A9 c9 many A8 c8 (machL l1) [] [] [] [] 5 _ (Kd.C_alloc HM10.out _) hc9 (Kd.C_below HR8.out (HB10.out.alloc HB10.out.size _)) hc8 HE2.out).mono ?_)
         rintro e W11 ⟨v0, v1, v2, v3, rfl, ho0, ho1, ho2, ho3, hb⟩
         obtain ⟨E0, z0, rfl⟩ := Kd.R_slice ho0
         obtain ⟨E1, z1, rfl⟩ := Kd.R_slice ho1
         obtain ⟨E2, z2, rfl⟩ := Kd.R_slice ho2
         obtain ⟨E3, z3, rfl⟩ := Kd.R_slice ho3
         refine ⟨_, rfl, ?_⟩
         have HB11 := Aside0.mk (below_then (HB10.out.alloc HB10.out.size _) (below_size (HB10.out.alloc HB10.out.size _)) hb)
         clear hb ho0 ho1 ho2 ho3)
      | ((with_reducible refine gate_dst (N := 39) rfl ?_); go_must (refine Kd.R_lit k27 (w0 := w8) w8.heap.size 27 rfl (N := 39) rfl (xs := ([] : List S27)) (inner := []) (ok := fun _ => True) (okp := fun _ => True) (by first | (go_simp; done) | (go_simp; rfl)) (Reps.none _ _) (fun _ h => h) trivial (HB11.out.alloc HB11.out.size _) (below_size (HB11.out.alloc HB11.out.size _)) (by simp) ?_)
         intro v39 W39 ho hb hg hat
         have HB39 := Aside0.mk hb
         have HO39 := Aside0.mk ho
         clear hb ho hg hat)
      | ((with_reducible refine gate_builtin (b := .append) (xs := #[.tmp 39, .tmp 40]) rfl ?_); at_builtin; go_must (refine Kd.R_append_rows k27 (w0 := w8) w8.heap.size rfl (.tmp 39) (.tmp 40) 28 27 (.agg #[(.int .i64 0), (.int .i64 0)]) 16 rfl Try.underlying28 info27 rfl (by decide) (by omega) v39 ([] : List S27) (routeL l0) _ _ _ (fun _ => True) (fun _ => False) rfl rfl HO39.out (Kd.C_below HR7.out HB39.out) (fun _ _ h => h) (fun _ h => h.elim) (fun _ _ => trivial) HB39.out (below_size HB39.out) HAL.out ?_)
         intro v41 W41 ho hb hg hat
         have HB41 := Aside0.mk hb
         have HO41 := Aside0.mk ho
         clear hb ho hg hat)
      | ((with_reducible refine gate_builtin (b := .append) (xs := #[.tmp 41, .tmp 43]) rfl ?_); at_builtin; go_must (refine Kd.R_append k27 (w0 := w8) w8.heap.size rfl (.tmp 41) (.tmp 43) 28 27 (.agg #[(.int .i64 0), (.int .i64 0)]) 16 rfl Try.underlying28 info27 rfl (by decide) (by omega) v41 (routeL l0) (⟨0, 0⟩ : S27) [.int .i64 0, .int .i64 0] (fun _ => True) (fun _ => False) rfl rfl (k27_mkM _ _ _ _) (fun _ h => h.elim) (fun _ _ => trivial) HO41.out HB41.out (below_size HB41.out) HAL1.out ?_)
         intro v44 W44 ho hb hg hat
         obtain ⟨A44, c44, e44, hc44, hC44⟩ := row_get ho
         subst e44
         have HB44 := Aside0.mk hb
         have HM44 := Aside0.mk hC44
         rw [HD.out] at HM44 hc44 ⊢
         clear hb ho hg hat hC44)
      | ((with_reducible refine gate_dst (N := 46) rfl ?_); go_must (refine goesL_ (some 46) rfl rfl Try.func16 (by kernel_rfl) rfl #[.slice A44 dl.length c44, .slice A8 (machL l1).length c8] rfl (by (try simp only [List.map_toArray, List.map_cons, List.map_nil]); first | done | rfl) ?_; refine (sequence_Make.calls A44 c44 dl A8 c8 (machL l1) [] [] [] [] 281 W44 HM44.out hc44 (Kd.C_below HR8.out HB44.out) hc8 HE3.out).mono ?_)
         rintro e W12 ⟨v0, v1, v2, v3, rfl, ho0, ho1, ho2, ho3, hb⟩
         obtain ⟨E0, z0, rfl⟩ := Kd.R_slice ho0
         obtain ⟨E1, z1, rfl⟩ := Kd.R_slice ho1
         obtain ⟨E2, z2, rfl⟩ := Kd.R_slice ho2
         obtain ⟨E3, z3, rfl⟩ := Kd.R_slice ho3
         refine ⟨_, rfl, ?_⟩
         have HB12 := Aside0.mk (below_then HB44.out (below_size HB44.out) hb)
         clear hb ho0 ho1 ho2 ho3)
      | ((with_reducible refine gate_dst (N := 50) rfl ?_); go_must (refine Kd.R_make (Kd.int .i64) (w0 := w8) w8.heap.size 3 rfl (N := 50) rfl 24 _ _ rfl 65 rfl rfl Try.underlying24 (.int .i64 0) 8 info3 rfl (by decide) (by decide) (0 : Int) (ok := fun _ => True) (okp := fun _ => True) rfl (fun _ h => h) trivial (by decide) (by decide) (HB12.out.alloc HB12.out.size _) (below_size (HB12.out.alloc HB12.out.size _)) ?_)
         intro v50 W50 ho hb hg hat
         obtain ⟨A50, c50, e50, hc50, hC50⟩ := row_get ho
         subst e50
         rw [HZ.out] at hC50 hc50 ⊢
         have HB50 := Aside0.mk hb
         have HM50 := Aside0.mk hC50
         clear hb hg hat ho hC50)
      | ((with_reducible refine gate_dst (N := 51) rfl ?_); go_must (refine goesL_ (some 51) rfl rfl Try.func16 (by kernel_rfl) rfl #[.slice none ([] : List S27).length 0, .slice A50 zs.length c50] rfl (by (try simp only [List.map_toArray, List.map_cons, List.map_nil]); first | done | rfl) ?_; refine (sequence_Make.calls none 0 [] A50 c50 zs [] [] [] [] 280 W50 (C_nil _ _) (Nat.le_refl _) HM50.out hc50 HE4.out).mono ?_)
         rintro e W13 ⟨v0, v1, v2, v3, rfl, ho0, ho1, ho2, ho3, hb⟩
         obtain ⟨E0, z0, rfl⟩ := Kd.R_slice ho0
         obtain ⟨E1, z1, rfl⟩ := Kd.R_slice ho1
         obtain ⟨E2, z2, rfl⟩ := Kd.R_slice ho2
         obtain ⟨E3, z3, rfl⟩ := Kd.R_slice ho3
         refine ⟨_, rfl, ?_⟩
         have HB13 := Aside0.mk (below_then HB50.out (below_size HB50.out) hb)
         clear hb ho0 ho1 ho2 ho3)
      | ((with_reducible refine gate_dst (N := 55) rfl ?_); go_must (refine Kd.R_lit k27 (w0 := w8) w8.heap.size 27 rfl (N := 55) rfl (xs := ([] : List S27)) (inner := []) (ok := fun _ => True) (okp := fun _ => True) (by first | (go_simp; done) | (go_simp; rfl)) (Reps.none _ _) (fun _ h => h) trivial (HB13.out.alloc HB13.out.size _) (below_size (HB13.out.alloc HB13.out.size _)) (by simp) ?_)
         intro v55 W55 ho hb hg hat
         have HB55 := Aside0.mk hb
         have HO55 := Aside0.mk ho
         clear hb ho hg hat)
      | ((with_reducible refine gate_builtin (b := .append) (xs := #[.tmp 55, .tmp 56]) rfl ?_); at_builtin; go_must (refine Kd.R_append_rows k27 (w0 := w8) w8.heap.size rfl (.tmp 55) (.tmp 56) 28 27 (.agg #[(.int .i64 0), (.int .i64 0)]) 16 rfl Try.underlying28 info27 rfl (by decide) (by omega) v55 ([] : List S27) (routeL l0) _ _ _ (fun _ => True) (fun _ => False) rfl rfl HO55.out (Kd.C_below HR7.out HB55.out) (fun _ _ h => h) (fun _ h => h.elim) (fun _ _ => trivial) HB55.out (below_size HB55.out) HAL.out ?_)
         intro v57 W57 ho hb hg hat
         have HB57 := Aside0.mk hb
         have HO57 := Aside0.mk ho
         clear hb ho hg hat)
      | ((with_reducible refine gate_builtin (b := .append) (xs := #[.tmp 57, .tmp 59]) rfl ?_); at_builtin; go_must (refine Kd.R_append k27 (w0 := w8) w8.heap.size rfl (.tmp 57) (.tmp 59) 28 27 (.agg #[(.int .i64 0), (.int .i64 0)]) 16 rfl Try.underlying28 info27 rfl (by decide) (by omega) v57 (routeL l0) (⟨999999, 257⟩ : S27) [.int .i64 999999, .int .i64 257] (fun _ => True) (fun _ => False) rfl rfl (k27_mkM _ _ _ _) (fun _ h => h.elim) (fun _ _ => trivial) HO57.out HB57.out (below_size HB57.out) HAL1.out ?_)
         intro v60 W60 ho hb hg hat
         obtain ⟨A60, c60, e60, hc60, hC60⟩ := row_get ho
         subst e60
         have HB60 := Aside0.mk hb
         have HM60 := Aside0.mk hC60
         rw [HG.out] at HM60 hc60 ⊢
         clear hb ho hg hat hC60)
      | ((with_reducible refine gate_dst (N := 62) rfl ?_); go_must (refine goesL_ (some 62) rfl rfl Try.func16 (by kernel_rfl) rfl #[.slice A60 gl.length c60, .slice A8 (machL l1).length c8] rfl (by (try simp only [List.map_toArray, List.map_cons, List.map_nil]); first | done | rfl) ?_; refine (sequence_Make.calls A60 c60 gl A8 c8 (machL l1) [] [] [] [] 4 W60 HM60.out hc60 (Kd.C_below HR8.out HB60.out) hc8 HE5.out).mono ?_)
         rintro e W14 ⟨v0, v1, v2, v3, rfl, ho0, ho1, ho2, ho3, hb⟩
         obtain ⟨E0, z0, rfl⟩ := Kd.R_slice ho0
         obtain ⟨E1, z1, rfl⟩ := Kd.R_slice ho1
         obtain ⟨E2, z2, rfl⟩ := Kd.R_slice ho2
         obtain ⟨E3, z3, rfl⟩ := Kd.R_slice ho3
         refine ⟨_, rfl, ?_⟩
         have HB14 := Aside0.mk (below_then HB60.out (below_size HB60.out) hb)
         clear hb ho0 ho1 ho2 ho3)
      | ((with_reducible refine gate_dst (N := 86) rfl ?_); go_must (refine goesL_ (some 86) rfl rfl Try.func16 (by kernel_rfl) rfl #[.slice A7 (routeL l0).length c7, .slice A8 (machL l1).length c8] rfl (by (try simp only [List.map_toArray, List.map_cons, List.map_nil]); first | done | rfl) ?_; refine (sequence_Make.calls A7 c7 (routeL l0) A8 c8 (machL l1) [] [] [] [] 4 _ (Kd.C_below HR7.out (HB14.out.alloc HB14.out.size _)) hc7 (Kd.C_below HR8.out (HB14.out.alloc HB14.out.size _)) hc8 HMK.out).mono ?_)
         rintro e W15 ⟨v0, v1, v2, v3, rfl, ho0, ho1, ho2, ho3, hb⟩
         obtain ⟨E0, z0, rfl⟩ := Kd.R_slice ho0
         obtain ⟨E1, z1, rfl⟩ := Kd.R_slice ho1
         obtain ⟨E2, z2, rfl⟩ := Kd.R_slice ho2
         obtain ⟨E3, z3, rfl⟩ := Kd.R_slice ho3
         refine ⟨_, rfl, ?_⟩
         have HB15 := Aside0.mk (below_then (HB14.out.alloc HB14.out.size _) (below_size (HB14.out.alloc HB14.out.size _)) hb)
         clear hb ho0 ho1 ho2 ho3)
      | ((with_reducible refine gate_dst (N := 94) rfl ?_); go_must ((try (refine gate_guard (by rfl) ?_; dsimp only)); refine goesL_ (some 94) rfl rfl Try.func18 (by kernel_rfl) rfl #[] rfl (by (try simp only [List.map_toArray, List.map_cons, List.map_nil]); first | done | rfl) ?_; refine (letterbaglaw28_awake.calls true _ rfl).mono ?_)
         rintro e W16 ⟨rfl, hb⟩
         refine ⟨_, rfl, ?_⟩
         have HB16 := Aside0.mk (below_then (HB15.out.alloc HB15.out.size _) (below_size (HB15.out.alloc HB15.out.size _)) hb)
         clear hb)
      | go_in)
    go_ret
    exact ⟨rfl, below_then HB8.out HB8.out.size HB16.out⟩
  · obtain ⟨hfe, hit, hlen, _⟩ := law_run l0 l1 l2 HW0.out HW1.out HW2.out m hm hp
    have hcnt := (feedL_ok (routeL l0) (routeL_nodup l0) (fun x hx => (routeL_mem l0 HV.out x hx).2.2.1) l2 (fun q hq => by
      have := List.all_eq_true.1 (all_u8 l2 HW2.out) q hq
      simp only [isU8, Bool.and_eq_true, decide_eq_true_eq] at this
      exact this.1)).1
    obtain ⟨hs6, hs4, hs5, hs3⟩ := wrong_sorts l0 l1 HV.out HCV.out m hm hp _ rfl _ _ rfl rfl (feedL (routeL l0) l2) hit hcnt
    have HFE := Aside0.mk hfe
    generalize feedL (routeL l0) l2 = items at hs6 hlen HFE
    have HMK := Aside0.mk hmk
    have hFl := loadsF_len (machL l1).length (seatL (machL l1) m 0 0 0 (routeL l0))
    have hSl := loadsS_len (machL l1).length (seatL (machL l1) m 0 0 0 (routeL l0))
    generalize seatL (machL l1) m 0 0 0 (routeL l0) = seats at HMK hs6 hs4 hs5 hs3 hFl hSl
    generalize loadsF (machL l1).length seats = F at *
    generalize loadsS (machL l1).length seats = S at *
    obtain ⟨itz, hitz⟩ : ∃ y, items ++ [(0 : Int)] = y := ⟨_, rfl⟩
    obtain ⟨big, hbig⟩ : ∃ y, List.replicate (2001 : Int).toNat (0 : Int) = y := ⟨_, rfl⟩
    rw [show (2001 : Nat) = (2001 : Int).toNat from rfl, hbig] at hs5 hs3
    rw [hitz] at hs6
    have HS6 := Aside0.mk hs6
    have HS4 := Aside0.mk hs4
    have HS5 := Aside0.mk hs5
    have HS3 := Aside0.mk hs3
    have HITZ := Aside0.mk hitz
    have HBIG := Aside0.mk hbig
    have HLEN := Aside0.mk hlen
    clear hfe hit hlen hcnt hs6 hs4 hs5 hs3 hFl hSl hitz hbig hmk hf hp
    go_enter Try.func8, Try.ntmps8
    go_upto_region 14 with (first
      | ((with_reducible refine gate_dst (N := 23) rfl ?_); go_must (refine goesL_ (some 23) rfl rfl Try.func19 (by kernel_rfl) rfl #[.slice A0 l0.length c0, .int .i64 9] rfl (by (try simp only [List.map_toArray, List.map_cons, List.map_nil]); first | done | rfl) ?_; refine (letterbaglaw28_route.calls 10000 A0 c0 l0 9 (routeL l0) w HR0.out hc0 HRT.out).mono ?_)
         rintro e w7 ⟨v0, rfl, ho, hb⟩
         obtain ⟨A7, c7, rfl, hc7, hC7⟩ := row_get ho
         refine ⟨_, rfl, ?_⟩
         have HB7 := Aside0.mk hb
         have HC7 := Aside0.mk hC7
         clear hb ho hC7)
      | ((with_reducible refine gate_dst (N := 25) rfl ?_); go_must (refine goesL_ (some 25) rfl rfl Try.func20 (by kernel_rfl) rfl #[.slice A1 l1.length c1] rfl (by (try simp only [List.map_toArray, List.map_cons, List.map_nil]); first | done | rfl) ?_; refine (letterbaglaw28_machine.calls 10000 A1 c1 l1 (machL l1) w7 (Kd.C_below HR1.out HB7.out) hc1 HMC.out).mono ?_)
         rintro e w8 ⟨v0, rfl, ho, hb⟩
         obtain ⟨A8, c8, rfl, hc8, hC8⟩ := row_get ho
         refine ⟨_, rfl, ?_⟩
         have HB8 := Aside0.mk (below_then HB7.out HB7.out.size hb)
         have HR7 := Aside0.mk (Kd.C_below HC7.out hb)
         have HR8 := Aside0.mk hC8
         clear hb ho hC8)
      | ((with_reducible refine gate_dst (N := 26) rfl ?_); go_must (refine Kd.R_make k27 (w0 := w8) w8.heap.size 27 rfl (N := 26) rfl 28 _ _ rfl 1001 rfl rfl Try.underlying28 (.agg #[(.int .i64 0), (.int .i64 0)]) 16 info27 rfl (by decide) (by decide) (⟨0, 0⟩ : S27) (ok := fun _ => True) (okp := fun _ => True) (k27_mkM _ _ _ _) (fun _ h => h) trivial (by decide) (by decide) (Below.refl _ _) (Nat.le_refl _) ?_)
         intro v26 W9 ho hb hg hat
         obtain ⟨A9, c9, e9, hc9, hC9⟩ := row_get ho
         subst e9
         rw [HMANY.out] at hC9 hc9 ⊢
         have HB9 := Aside0.mk hb
         have HM9 := Aside0.mk hC9
         clear hb hg hat ho hC9)
      | ((with_reducible refine gate_dst (N := 29) rfl ?_); go_must (refine goesL_ (some 29) rfl rfl Try.func16 (by kernel_rfl) rfl #[.slice A9 many.length c9, .slice none ([] : List Int).length 0] rfl (by (try simp only [List.map_toArray, List.map_cons, List.map_nil]); first | done | rfl) ?_; refine (sequence_Make.calls A9 c9 many none 0 [] [] [] [] [] 280 W9 HM9.out hc9 (C_nil _ _) (Nat.le_refl _) HE1.out).mono ?_)
         rintro e W10 ⟨v0, v1, v2, v3, rfl, ho0, ho1, ho2, ho3, hb⟩
         obtain ⟨E0, z0, rfl⟩ := Kd.R_slice ho0
         obtain ⟨E1, z1, rfl⟩ := Kd.R_slice ho1
         obtain ⟨E2, z2, rfl⟩ := Kd.R_slice ho2
         obtain ⟨E3, z3, rfl⟩ := Kd.R_slice ho3
         refine ⟨_, rfl, ?_⟩
         have HB10 := Aside0.mk (below_then HB9.out (below_size HB9.out) hb)
         have HM10 := Aside0.mk (Kd.C_below HM9.out hb)
         clear hb ho0 ho1 ho2 ho3)
      | ((with_reducible refine gate_dst (N := 35) rfl ?_); go_must (refine goesL_ (some 35) rfl rfl Try.func16 (by kernel_rfl) rfl #[.slice A9 many.length c9, .slice A8 (machL l1).length c8] rfl (by (try simp only [List.map_toArray, List.map_cons, List.map_nil]); first | done | rfl) ?_; refine (sequence_Make.calls A9 c9 many A8 c8 (machL l1) [] [] [] [] 5 _ (Kd.C_alloc HM10.out _) hc9 (Kd.C_below HR8.out (HB10.out.alloc HB10.out.size _)) hc8 HE2.out).mono ?_)
         rintro e W11 ⟨v0, v1, v2, v3, rfl, ho0, ho1, ho2, ho3, hb⟩
         obtain ⟨E0, z0, rfl⟩ := Kd.R_slice ho0
         obtain ⟨E1, z1, rfl⟩ := Kd.R_slice ho1
         obtain ⟨E2, z2, rfl⟩ := Kd.R_slice ho2
         obtain ⟨E3, z3, rfl⟩ := Kd.R_slice ho3
         refine ⟨_, rfl, ?_⟩
         have HB11 := Aside0.mk (below_then (HB10.out.alloc HB10.out.size _) (below_size (HB10.out.alloc HB10.out.size _)) hb)
         clear hb ho0 ho1 ho2 ho3)
      | ((with_reducible refine gate_dst (N := 39) rfl ?_); go_must (refine Kd.R_lit k27 (w0 := w8) w8.heap.size 27 rfl (N := 39) rfl (xs := ([] : List S27)) (inner := []) (ok := fun _ => True) (okp := fun _ => True) (by first | (go_simp; done) | (go_simp; rfl)) (Reps.none _ _) (fun _ h => h) trivial (HB11.out.alloc HB11.out.size _) (below_size (HB11.out.alloc HB11.out.size _)) (by simp) ?_)
         intro v39 W39 ho hb hg hat
         have HB39 := Aside0.mk hb
         have HO39 := Aside0.mk ho
         clear hb ho hg hat)
      | ((with_reducible refine gate_builtin (b := .append) (xs := #[.tmp 39, .tmp 40]) rfl ?_); at_builtin; go_must (refine Kd.R_append_rows k27 (w0 := w8) w8.heap.size rfl (.tmp 39) (.tmp 40) 28 27 (.agg #[(.int .i64 0), (.int .i64 0)]) 16 rfl Try.underlying28 info27 rfl (by decide) (by omega) v39 ([] : List S27) (routeL l0) _ _ _ (fun _ => True) (fun _ => False) rfl rfl HO39.out (Kd.C_below HR7.out HB39.out) (fun _ _ h => h) (fun _ h => h.elim) (fun _ _ => trivial) HB39.out (below_size HB39.out) HAL.out ?_)
         intro v41 W41 ho hb hg hat
         have HB41 := Aside0.mk hb
         have HO41 := Aside0.mk ho
         clear hb ho hg hat)
      | ((with_reducible refine gate_builtin (b := .append) (xs := #[.tmp 41, .tmp 43]) rfl ?_); at_builtin; go_must (refine Kd.R_append k27 (w0 := w8) w8.heap.size rfl (.tmp 41) (.tmp 43) 28 27 (.agg #[(.int .i64 0), (.int .i64 0)]) 16 rfl Try.underlying28 info27 rfl (by decide) (by omega) v41 (routeL l0) (⟨0, 0⟩ : S27) [.int .i64 0, .int .i64 0] (fun _ => True) (fun _ => False) rfl rfl (k27_mkM _ _ _ _) (fun _ h => h.elim) (fun _ _ => trivial) HO41.out HB41.out (below_size HB41.out) HAL1.out ?_)
         intro v44 W44 ho hb hg hat
         obtain ⟨A44, c44, e44, hc44, hC44⟩ := row_get ho
         subst e44
         have HB44 := Aside0.mk hb
         have HM44 := Aside0.mk hC44
         rw [HD.out] at HM44 hc44 ⊢
         clear hb ho hg hat hC44)
      | ((with_reducible refine gate_dst (N := 46) rfl ?_); go_must (refine goesL_ (some 46) rfl rfl Try.func16 (by kernel_rfl) rfl #[.slice A44 dl.length c44, .slice A8 (machL l1).length c8] rfl (by (try simp only [List.map_toArray, List.map_cons, List.map_nil]); first | done | rfl) ?_; refine (sequence_Make.calls A44 c44 dl A8 c8 (machL l1) [] [] [] [] 281 W44 HM44.out hc44 (Kd.C_below HR8.out HB44.out) hc8 HE3.out).mono ?_)
         rintro e W12 ⟨v0, v1, v2, v3, rfl, ho0, ho1, ho2, ho3, hb⟩
         obtain ⟨E0, z0, rfl⟩ := Kd.R_slice ho0
         obtain ⟨E1, z1, rfl⟩ := Kd.R_slice ho1
         obtain ⟨E2, z2, rfl⟩ := Kd.R_slice ho2
         obtain ⟨E3, z3, rfl⟩ := Kd.R_slice ho3
         refine ⟨_, rfl, ?_⟩
         have HB12 := Aside0.mk (below_then HB44.out (below_size HB44.out) hb)
         clear hb ho0 ho1 ho2 ho3)
      | ((with_reducible refine gate_dst (N := 50) rfl ?_); go_must (refine Kd.R_make (Kd.int .i64) (w0 := w8) w8.heap.size 3 rfl (N := 50) rfl 24 _ _ rfl 65 rfl rfl Try.underlying24 (.int .i64 0) 8 info3 rfl (by decide) (by decide) (0 : Int) (ok := fun _ => True) (okp := fun _ => True) rfl (fun _ h => h) trivial (by decide) (by decide) (HB12.out.alloc HB12.out.size _) (below_size (HB12.out.alloc HB12.out.size _)) ?_)
         intro v50 W50 ho hb hg hat
         obtain ⟨A50, c50, e50, hc50, hC50⟩ := row_get ho
         subst e50
         rw [HZ.out] at hC50 hc50 ⊢
         have HB50 := Aside0.mk hb
         have HM50 := Aside0.mk hC50
         clear hb hg hat ho hC50)
      | ((with_reducible refine gate_dst (N := 51) rfl ?_); go_must (refine goesL_ (some 51) rfl rfl Try.func16 (by kernel_rfl) rfl #[.slice none ([] : List S27).length 0, .slice A50 zs.length c50] rfl (by (try simp only [List.map_toArray, List.map_cons, List.map_nil]); first | done | rfl) ?_; refine (sequence_Make.calls none 0 [] A50 c50 zs [] [] [] [] 280 W50 (C_nil _ _) (Nat.le_refl _) HM50.out hc50 HE4.out).mono ?_)
         rintro e W13 ⟨v0, v1, v2, v3, rfl, ho0, ho1, ho2, ho3, hb⟩
         obtain ⟨E0, z0, rfl⟩ := Kd.R_slice ho0
         obtain ⟨E1, z1, rfl⟩ := Kd.R_slice ho1
         obtain ⟨E2, z2, rfl⟩ := Kd.R_slice ho2
         obtain ⟨E3, z3, rfl⟩ := Kd.R_slice ho3
         refine ⟨_, rfl, ?_⟩
         have HB13 := Aside0.mk (below_then HB50.out (below_size HB50.out) hb)
         clear hb ho0 ho1 ho2 ho3)
      | ((with_reducible refine gate_dst (N := 55) rfl ?_); go_must (refine Kd.R_lit k27 (w0 := w8) w8.heap.size 27 rfl (N := 55) rfl (xs := ([] : List S27)) (inner := []) (ok := fun _ => True) (okp := fun _ => True) (by first | (go_simp; done) | (go_simp; rfl)) (Reps.none _ _) (fun _ h => h) trivial (HB13.out.alloc HB13.out.size _) (below_size (HB13.out.alloc HB13.out.size _)) (by simp) ?_)
         intro v55 W55 ho hb hg hat
         have HB55 := Aside0.mk hb
         have HO55 := Aside0.mk ho
         clear hb ho hg hat)
      | ((with_reducible refine gate_builtin (b := .append) (xs := #[.tmp 55, .tmp 56]) rfl ?_); at_builtin; go_must (refine Kd.R_append_rows k27 (w0 := w8) w8.heap.size rfl (.tmp 55) (.tmp 56) 28 27 (.agg #[(.int .i64 0), (.int .i64 0)]) 16 rfl Try.underlying28 info27 rfl (by decide) (by omega) v55 ([] : List S27) (routeL l0) _ _ _ (fun _ => True) (fun _ => False) rfl rfl HO55.out (Kd.C_below HR7.out HB55.out) (fun _ _ h => h) (fun _ h => h.elim) (fun _ _ => trivial) HB55.out (below_size HB55.out) HAL.out ?_)
         intro v57 W57 ho hb hg hat
         have HB57 := Aside0.mk hb
         have HO57 := Aside0.mk ho
         clear hb ho hg hat)
      | ((with_reducible refine gate_builtin (b := .append) (xs := #[.tmp 57, .tmp 59]) rfl ?_); at_builtin; go_must (refine Kd.R_append k27 (w0 := w8) w8.heap.size rfl (.tmp 57) (.tmp 59) 28 27 (.agg #[(.int .i64 0), (.int .i64 0)]) 16 rfl Try.underlying28 info27 rfl (by decide) (by omega) v57 (routeL l0) (⟨999999, 257⟩ : S27) [.int .i64 999999, .int .i64 257] (fun _ => True) (fun _ => False) rfl rfl (k27_mkM _ _ _ _) (fun _ h => h.elim) (fun _ _ => trivial) HO57.out HB57.out (below_size HB57.out) HAL1.out ?_)
         intro v60 W60 ho hb hg hat
         obtain ⟨A60, c60, e60, hc60, hC60⟩ := row_get ho
         subst e60
         have HB60 := Aside0.mk hb
         have HM60 := Aside0.mk hC60
         rw [HG.out] at HM60 hc60 ⊢
         clear hb ho hg hat hC60)
      | ((with_reducible refine gate_dst (N := 62) rfl ?_); go_must (refine goesL_ (some 62) rfl rfl Try.func16 (by kernel_rfl) rfl #[.slice A60 gl.length c60, .slice A8 (machL l1).length c8] rfl (by (try simp only [List.map_toArray, List.map_cons, List.map_nil]); first | done | rfl) ?_; refine (sequence_Make.calls A60 c60 gl A8 c8 (machL l1) [] [] [] [] 4 W60 HM60.out hc60 (Kd.C_below HR8.out HB60.out) hc8 HE5.out).mono ?_)
         rintro e W14 ⟨v0, v1, v2, v3, rfl, ho0, ho1, ho2, ho3, hb⟩
         obtain ⟨E0, z0, rfl⟩ := Kd.R_slice ho0
         obtain ⟨E1, z1, rfl⟩ := Kd.R_slice ho1
         obtain ⟨E2, z2, rfl⟩ := Kd.R_slice ho2
         obtain ⟨E3, z3, rfl⟩ := Kd.R_slice ho3
         refine ⟨_, rfl, ?_⟩
         have HB14 := Aside0.mk (below_then HB60.out (below_size HB60.out) hb)
         clear hb ho0 ho1 ho2 ho3)
      | ((with_reducible refine gate_dst (N := 86) rfl ?_); go_must (refine goesL_ (some 86) rfl rfl Try.func16 (by kernel_rfl) rfl #[.slice A7 (routeL l0).length c7, .slice A8 (machL l1).length c8] rfl (by (try simp only [List.map_toArray, List.map_cons, List.map_nil]); first | done | rfl) ?_; refine (sequence_Make.calls A7 c7 (routeL l0) A8 c8 (machL l1) (machL l1) seats F S 0 _ (Kd.C_below HR7.out (HB14.out.alloc HB14.out.size _)) hc7 (Kd.C_below HR8.out (HB14.out.alloc HB14.out.size _)) hc8 HMK.out).mono ?_)
         rintro e w9 ⟨v0, v1, v2, v3, rfl, ho0, ho1, ho2, ho3, hb⟩
         obtain ⟨P0, k0, rfl, hk0, hP0⟩ := row_get ho0
         obtain ⟨P1, k1, rfl, hk1, hP1⟩ := row_get ho1
         obtain ⟨P2, k2, rfl, hk2, hP2⟩ := row_get ho2
         obtain ⟨P3, k3, rfl, hk3, hP3⟩ := row_get ho3
         refine ⟨_, rfl, ?_⟩
         have HB15 := Aside0.mk (below_then (HB14.out.alloc HB14.out.size _) (below_size (HB14.out.alloc HB14.out.size _)) hb)
         have HP0 := Aside0.mk hP0
         have HP1 := Aside0.mk hP1
         have HP2 := Aside0.mk hP2
         have HP3 := Aside0.mk hP3
         clear hb ho0 ho1 ho2 ho3 hP0 hP1 hP2 hP3)
      | ((with_reducible refine gate_dst (N := 98) rfl ?_); go_must (refine goesL_ (some 98) rfl rfl Try.func22 (by kernel_rfl) rfl #[.slice A7 (routeL l0).length c7, .slice A2 l2.length c2] rfl (by (try simp only [List.map_toArray, List.map_cons, List.map_nil]); first | done | rfl) ?_; refine (letterbaglaw28_feed.calls A7 c7 (routeL l0) A2 c2 l2 items (w9.alloc (.cells #[.slice P0 (machL l1).length k0, .slice P1 seats.length k1, .slice P2 F.length k2, .slice P3 S.length k3] 38)) (Kd.C_below HR7.out (HB15.out.alloc HB15.out.size _)) hc7 (Kd.C_below HR2.out (below_then HB8.out HB8.out.size (HB15.out.alloc HB15.out.size _))) hc2 HFE.out).mono ?_)
         rintro e w10 ⟨v0, rfl, ho, hb⟩
         obtain ⟨AI, cI, rfl, hcI, hCI⟩ := row_get ho
         refine ⟨_, rfl, ?_⟩
         have hbx : Below w9.heap.size w9 w10 := below_step ((Below.refl _ _).alloc (Nat.le_refl _) (.cells #[.slice P0 (machL l1).length k0, .slice P1 seats.length k1, .slice P2 F.length k2, .slice P3 S.length k3] 38)) hb
         have HPB := Aside0.mk (blk_below (blk_new w9 (.cells #[.slice P0 (machL l1).length k0, .slice P1 seats.length k1, .slice P2 F.length k2, .slice P3 S.length k3] 38)) hb)
         have HBa := Aside0.mk (below_then HB15.out HB15.out.size hbx)
         have HBX := Aside0.mk hbx
         have HQ0 := HP0
         have HQ1 := HP1
         have HQ2 := HP2
         have HQ3 := HP3
         replace HP0 := Aside0.mk (Kd.C_below HP0.out hbx)
         replace HP1 := Aside0.mk (Kd.C_below HP1.out hbx)
         replace HP2 := Aside0.mk (Kd.C_below HP2.out hbx)
         replace HP3 := Aside0.mk (Kd.C_below HP3.out hbx)
         have HI := Aside0.mk hCI
         have pc0 : w10.cell? ⟨w9.heap.size, 0, none⟩ = some (.slice P0 (machL l1).length k0) := (blk_cell HPB.out 0).trans rfl
         have pc1 : w10.cell? ⟨w9.heap.size, 1, none⟩ = some (.slice P1 seats.length k1) := (blk_cell HPB.out 1).trans rfl
         have pc2 : w10.cell? ⟨w9.heap.size, 2, none⟩ = some (.slice P2 F.length k2) := (blk_cell HPB.out 2).trans rfl
         have pc3 : w10.cell? ⟨w9.heap.size, 3, none⟩ = some (.slice P3 S.length k3) := (blk_cell HPB.out 3).trans rfl
         clear hb hbx ho hCI)
      | go_in)
    obtain ⟨gp, hgp⟩ : ∃ g, g = w9.heap.size := ⟨_, rfl⟩
    rw [← hgp] at HPB pc0 pc1 pc2 pc3 ⊢
    have HGP := Aside0.mk hgp
    clear hgp
    go_cut [11] from 99 to 108 (fun v11 wc => v11 = .int .i64 6 ∧ Aside0 (Below w10.heap.size w10 wc))
    case first =>
      refine start_ (n := 11) (S := fun w' => Below w10.heap.size w10 w') (ds := []) #[false, false, false, false, false, false, false, false, false, false, false] (by kernel_rfl) rfl rfl (below_drew1 (Below.refl _ _)) (fun hHeld => ?_)
      generalize w10.drew = wd at hHeld ⊢
      refine take_ (i := 0) (N := some 100) (v := ?_) (a' := ?_) #[true, false, false, false, false, false, false, false, false, false, false] rfl rfl (by kernel_rfl) (fun _ _ _ h => h) (Or.inl ⟨by rfl, ?_⟩) hHeld ?_ ?_
      rotate_left
      · rintro w' s0
        have f0 := (s0.cell (World.block_lt_of_cell? _ _ pc0)).trans pc0
        have f1 := (s0.cell (World.block_lt_of_cell? _ _ pc1)).trans pc1
        have f2 := (s0.cell (World.block_lt_of_cell? _ _ pc2)).trans pc2
        have f3 := (s0.cell (World.block_lt_of_cell? _ _ pc3)).trans pc3
        go_simp
        with_reducible rfl
      rotate_left
      · simp only [Act.put, List.setIfInBounds_toArray, List.set_cons_zero, List.set_cons_succ, i64_w, i32_w]
        rfl
      refine pure_ (i := 2) (N := some 102) (v := ?_) (a' := ?_) #[true, false, true, false, false, false, false, false, false, false, false] rfl rfl (by kernel_rfl) (fun _ _ _ h => h) (Or.inl ⟨by rfl, ?_⟩) ?_ ?_
      rotate_left
      · intro w'
        go_simp
        with_reducible rfl
      rotate_left
      · simp only [Act.put, List.setIfInBounds_toArray, List.set_cons_zero, List.set_cons_succ, i64_w, i32_w]
        rfl
      refine two_ (i := 1) (j := 4) (Ni := some 101) (Nj := some 104) #[true, true, true, false, false, false, false, false, false, false, false] #[true, false, true, false, true, false, false, false, false, false, false] rfl rfl rfl rfl (by kernel_rfl) (by decide) (by decide) (fun K hK => ?_) (fun K hK => ?_)
      · refine Kd.R_lit_step (Kd.int .i64) (w0 := w10) w10.heap.size 3 (by rfl) (N := 101) rfl (xs := ([] : List Int)) (inner := []) (ok := fun _ => True) (okp := fun _ => True) (by first | (go_simp; done) | (go_simp; rfl)) (Reps.none _ _) (fun _ h => h) trivial hHeld hHeld.size (by simp) ?_
        intro v101 W1 ho101 hb hg101 hat101
        refine hK.out _ _ hb (fun hHeld2 => ?_)
        clear hK K hb
        refine norm_ (a' := ?_) ?_ ?_
        rotate_left
        · show Act.put _ (some 101) _ = _
          simp only [Act.put, List.setIfInBounds_toArray, List.set_cons_zero, List.set_cons_succ]
          rfl
        refine two_ (i := 3) (j := 4) (Ni := some 103) (Nj := some 104) #[true, true, true, true, false, false, false, false, false, false, false] #[true, true, true, false, true, false, false, false, false, false, false] rfl rfl rfl rfl (by kernel_rfl) (by decide) (by decide) (fun K hK => ?_) (fun K hK => ?_)
        · refine append_rows_step (Kd.int .i64) (w0 := w10) w10.heap.size (by rfl) (.tmp 101) (.tmp 102) 24 3 (.int .i64 0) 8 rfl Try.underlying24 info3 rfl (by decide) (by omega) v101 ([] : List Int) items _ _ _ (fun _ => True) (fun _ => False) rfl rfl ho101 (Kd.C_below HI.out hHeld2) (fun _ _ h => h) (fun _ h => h.elim) (fun _ _ => trivial) hHeld2 hHeld2.size (by have := HLEN.out; simp only [List.length_nil]; omega) ?_
          intro v103 W2 ho103 hb hg103 hat103
          refine hK.out _ _ hb (fun hHeld3 => ?_)
          clear hK K hb
          refine norm_ (a' := ?_) ?_ ?_
          rotate_left
          · show Act.put _ (some 103) _ = _
            simp only [Act.put, List.setIfInBounds_toArray, List.set_cons_zero, List.set_cons_succ]
            rfl
          refine one_ (i := 4) (N := some 104) #[true, true, true, true, true, false, false, false, false, false, false] rfl rfl (by kernel_rfl) (by decide) (fun K hK => ?_)
          refine Kd.R_lit_step (Kd.int .i64) (w0 := w10) w10.heap.size 3 (by rfl) (N := 104) rfl (xs := ([0] : List Int)) (inner := [.int .i64 0]) (ok := fun _ => True) (okp := fun _ => True) (by first | (go_simp; done) | (go_simp; rfl)) ((Reps.none _ _).snoc (p := (0 : Int)) (c := [Value.int .i64 0]) rfl rfl) (fun _ h => h) trivial hHeld3 hHeld3.size (by simp) ?_
          intro v104 W3 ho104 hb hg104 hat104
          refine hK.out _ _ hb (fun hHeld4 => ?_)
          clear hK K hb
          refine norm_ (a' := ?_) ?_ ?_
          rotate_left
          · show Act.put _ (some 104) _ = _
            simp only [Act.put, List.setIfInBounds_toArray, List.set_cons_zero, List.set_cons_succ]
            rfl
          replace ho103 := Kd.R_grown2 ho103 rfl hg104 (fun k hk => by cases hk)
          obtain ⟨A104, c104, e104⟩ := Kd.R_slice ho104
          subst e104
          refine one_ (i := 5) (N := some 105) #[true, true, true, true, true, true, false, false, false, false, false] rfl rfl (by kernel_rfl) (by decide) (fun K hK => ?_)
          refine append_rows_step (Kd.int .i64) (w0 := w10) w10.heap.size (by rfl) (.tmp 103) (.tmp 104) 24 3 (.int .i64 0) 8 rfl Try.underlying24 info3 rfl (by decide) (by omega) v103 items ([0] : List Int) _ _ _ (fun _ => True) (fun _ => False) rfl rfl ho103 (Kd.R_reads' ho104).2.2 (fun _ _ h => h) (fun _ h => h.elim) (fun _ _ => trivial) hHeld4 hHeld4.size (by have := HLEN.out; simp only [List.length_cons, List.length_nil]; omega) ?_
          intro v105 W105 ho105 hb hg hat
          rw [HITZ.out] at ho105
          obtain ⟨A105, c105, e105, hc105, hC105⟩ := row_get ho105
          subst e105
          refine hK.out _ _ hb (fun hHeld8 => ?_)
          clear hK K hb hg hat ho105
          refine norm_ (a' := ?_) ?_ ?_
          rotate_left
          · show Act.put _ (some 105) _ = _
            simp only [Act.put, List.setIfInBounds_toArray, List.set_cons_zero, List.set_cons_succ]
            rfl
          refine one_ (i := 6) (N := some 106) #[true, true, true, true, true, true, true, false, false, false, false] rfl rfl (by kernel_rfl) (by decide) (fun K hK => ?_)
          refine goes_ Try.func23 (by kernel_rfl) rfl #[.agg #[.slice P0 (machL l1).length k0, .slice P1 seats.length k1, .slice P2 F.length k2, .slice P3 S.length k3], .slice A105 itz.length c105] (by rfl) rfl rfl (by (try simp only [List.map_toArray, List.map_cons, List.map_nil]); first | done | rfl) ?_
          refine (sequence_Sort.calls P0 k0 (machL l1) P1 k1 seats P2 k2 F P3 k3 S A105 c105 itz [] [] [] 6 W105 (Kd.C_below HP0.out hHeld8) hk0 (Kd.C_below HP1.out hHeld8) hk1 (Kd.C_below HP2.out hHeld8) hk2 (Kd.C_below HP3.out hHeld8) hk3 hC105 hc105 HS6.out).mono ?_
          rintro e W9 ⟨v0, v1, v2, rfl, ho0, ho1, ho2, hb⟩
          refine ⟨_, rfl, ?_⟩
          refine hK.out _ _ (below_then hHeld8 hHeld8.size hb) (fun hHeld9 => ?_)
          clear hK K hb ho0 ho1 ho2
          refine pure_ (i := 7) (N := some 99) (v := ?_) (a' := ?_) #[true, true, true, true, true, true, true, true, false, false, false] rfl rfl (by kernel_rfl) (fun _ _ _ h => h) (Or.inl ⟨by rfl, ?_⟩) ?_ ?_
          rotate_left
          · intro w'
            go_simp
            with_reducible rfl
          rotate_left
          · simp only [Act.put, List.setIfInBounds_toArray, List.set_cons_zero, List.set_cons_succ, i64_w, i32_w]
            rfl
          refine pure_ (i := 8) (N := some 107) (v := ?_) (a' := ?_) #[true, true, true, true, true, true, true, true, true, false, false] rfl rfl (by kernel_rfl) (fun _ _ _ h => h) (Or.inl ⟨by rfl, ?_⟩) ?_ ?_
          rotate_left
          · intro w'
            go_simp
            with_reducible rfl
          rotate_left
          · simp only [Act.put, List.setIfInBounds_toArray, List.set_cons_zero, List.set_cons_succ, i64_w, i32_w]
            rfl
          refine pure_ (i := 9) (N := some 108) (v := ?_) (a' := ?_) #[true, true, true, true, true, true, true, true, true, true, false] rfl rfl (by kernel_rfl) (fun _ _ _ h => h) (Or.inl ⟨by rfl, ?_⟩) ?_ ?_
          rotate_left
          · intro w'
            go_simp
            with_reducible rfl
          rotate_left
          · simp only [Act.put, List.setIfInBounds_toArray, List.set_cons_zero, List.set_cons_succ, i64_w, i32_w]
            rfl
          refine pure_ (i := 10) (N := some 11) (v := ?_) (a' := ?_) #[true, true, true, true, true, true, true, true, true, true, true] rfl rfl (by kernel_rfl) (fun _ _ _ h => h) (Or.inl ⟨by rfl, ?_⟩) ?_ ?_
          rotate_left
          · intro w'
            go_simp
            with_reducible rfl
          rotate_left
          · simp only [Act.put, List.setIfInBounds_toArray, List.set_cons_zero, List.set_cons_succ, i64_w, i32_w]
            rfl
          refine done_ (by kernel_rfl) ?_
          go_wp2
          go_meet
          case rel => exact ⟨rfl, ⟨hHeld9⟩⟩
        · refine Kd.R_lit_step (Kd.int .i64) (w0 := w10) w10.heap.size 3 (by rfl) (N := 104) rfl (xs := ([0] : List Int)) (inner := [.int .i64 0]) (ok := fun _ => True) (okp := fun _ => True) (by first | (go_simp; done) | (go_simp; rfl)) ((Reps.none _ _).snoc (p := (0 : Int)) (c := [Value.int .i64 0]) rfl rfl) (fun _ h => h) trivial hHeld2 hHeld2.size (by simp) ?_
          intro v104 W2 ho104 hb hg104 hat104
          refine hK.out _ _ hb (fun hHeld3 => ?_)
          clear hK K hb
          refine norm_ (a' := ?_) ?_ ?_
          rotate_left
          · show Act.put _ (some 104) _ = _
            simp only [Act.put, List.setIfInBounds_toArray, List.set_cons_zero, List.set_cons_succ]
            rfl
          have hne : v101.ownBlock ≠ v104.ownBlock := fun h => by obtain ⟨b, h1, h2⟩ := hat104; have := Kd.R_lt ho101 b (by rw [h]; exact h1); omega
          replace ho101 := Kd.R_grown2 ho101 rfl hg104 (fun k hk => by cases hk)
          refine one_ (i := 3) (N := some 103) #[true, true, true, true, true, false, false, false, false, false, false] rfl rfl (by kernel_rfl) (by decide) (fun K hK => ?_)
          refine append_rows_step (Kd.int .i64) (w0 := w10) w10.heap.size (by rfl) (.tmp 101) (.tmp 102) 24 3 (.int .i64 0) 8 rfl Try.underlying24 info3 rfl (by decide) (by omega) v101 ([] : List Int) items _ _ _ (fun _ => True) (fun _ => False) rfl rfl ho101 (Kd.C_below HI.out hHeld3) (fun _ _ h => h) (fun _ h => h.elim) (fun _ _ => trivial) hHeld3 hHeld3.size (by have := HLEN.out; simp only [List.length_nil]; omega) ?_
          intro v103 W3 ho103 hb hg103 hat103
          refine hK.out _ _ hb (fun hHeld4 => ?_)
          clear hK K hb
          refine norm_ (a' := ?_) ?_ ?_
          rotate_left
          · show Act.put _ (some 103) _ = _
            simp only [Act.put, List.setIfInBounds_toArray, List.set_cons_zero, List.set_cons_succ]
            rfl
          replace ho104 := Kd.R_grown1 ho104 rfl hg103 hne
          obtain ⟨A104, c104, e104⟩ := Kd.R_slice ho104
          subst e104
          refine one_ (i := 5) (N := some 105) #[true, true, true, true, true, true, false, false, false, false, false] rfl rfl (by kernel_rfl) (by decide) (fun K hK => ?_)
          refine append_rows_step (Kd.int .i64) (w0 := w10) w10.heap.size (by rfl) (.tmp 103) (.tmp 104) 24 3 (.int .i64 0) 8 rfl Try.underlying24 info3 rfl (by decide) (by omega) v103 items ([0] : List Int) _ _ _ (fun _ => True) (fun _ => False) rfl rfl ho103 (Kd.R_reads' ho104).2.2 (fun _ _ h => h) (fun _ h => h.elim) (fun _ _ => trivial) hHeld4 hHeld4.size (by have := HLEN.out; simp only [List.length_cons, List.length_nil]; omega) ?_
          intro v105 W105 ho105 hb hg hat
          rw [HITZ.out] at ho105
          obtain ⟨A105, c105, e105, hc105, hC105⟩ := row_get ho105
          subst e105
          refine hK.out _ _ hb (fun hHeld8 => ?_)
          clear hK K hb hg hat ho105
          refine norm_ (a' := ?_) ?_ ?_
          rotate_left
          · show Act.put _ (some 105) _ = _
            simp only [Act.put, List.setIfInBounds_toArray, List.set_cons_zero, List.set_cons_succ]
            rfl
          refine one_ (i := 6) (N := some 106) #[true, true, true, true, true, true, true, false, false, false, false] rfl rfl (by kernel_rfl) (by decide) (fun K hK => ?_)
          refine goes_ Try.func23 (by kernel_rfl) rfl #[.agg #[.slice P0 (machL l1).length k0, .slice P1 seats.length k1, .slice P2 F.length k2, .slice P3 S.length k3], .slice A105 itz.length c105] (by rfl) rfl rfl (by (try simp only [List.map_toArray, List.map_cons, List.map_nil]); first | done | rfl) ?_
          refine (sequence_Sort.calls P0 k0 (machL l1) P1 k1 seats P2 k2 F P3 k3 S A105 c105 itz [] [] [] 6 W105 (Kd.C_below HP0.out hHeld8) hk0 (Kd.C_below HP1.out hHeld8) hk1 (Kd.C_below HP2.out hHeld8) hk2 (Kd.C_below HP3.out hHeld8) hk3 hC105 hc105 HS6.out).mono ?_
          rintro e W9 ⟨v0, v1, v2, rfl, ho0, ho1, ho2, hb⟩
          refine ⟨_, rfl, ?_⟩
          refine hK.out _ _ (below_then hHeld8 hHeld8.size hb) (fun hHeld9 => ?_)
          clear hK K hb ho0 ho1 ho2
          refine pure_ (i := 7) (N := some 99) (v := ?_) (a' := ?_) #[true, true, true, true, true, true, true, true, false, false, false] rfl rfl (by kernel_rfl) (fun _ _ _ h => h) (Or.inl ⟨by rfl, ?_⟩) ?_ ?_
          rotate_left
          · intro w'
            go_simp
            with_reducible rfl
          rotate_left
          · simp only [Act.put, List.setIfInBounds_toArray, List.set_cons_zero, List.set_cons_succ, i64_w, i32_w]
            rfl
          refine pure_ (i := 8) (N := some 107) (v := ?_) (a' := ?_) #[true, true, true, true, true, true, true, true, true, false, false] rfl rfl (by kernel_rfl) (fun _ _ _ h => h) (Or.inl ⟨by rfl, ?_⟩) ?_ ?_
          rotate_left
          · intro w'
            go_simp
            with_reducible rfl
          rotate_left
          · simp only [Act.put, List.setIfInBounds_toArray, List.set_cons_zero, List.set_cons_succ, i64_w, i32_w]
            rfl
          refine pure_ (i := 9) (N := some 108) (v := ?_) (a' := ?_) #[true, true, true, true, true, true, true, true, true, true, false] rfl rfl (by kernel_rfl) (fun _ _ _ h => h) (Or.inl ⟨by rfl, ?_⟩) ?_ ?_
          rotate_left
          · intro w'
            go_simp
            with_reducible rfl
          rotate_left
          · simp only [Act.put, List.setIfInBounds_toArray, List.set_cons_zero, List.set_cons_succ, i64_w, i32_w]
            rfl
          refine pure_ (i := 10) (N := some 11) (v := ?_) (a' := ?_) #[true, true, true, true, true, true, true, true, true, true, true] rfl rfl (by kernel_rfl) (fun _ _ _ h => h) (Or.inl ⟨by rfl, ?_⟩) ?_ ?_
          rotate_left
          · intro w'
            go_simp
            with_reducible rfl
          rotate_left
          · simp only [Act.put, List.setIfInBounds_toArray, List.set_cons_zero, List.set_cons_succ, i64_w, i32_w]
            rfl
          refine done_ (by kernel_rfl) ?_
          go_wp2
          go_meet
          case rel => exact ⟨rfl, ⟨hHeld9⟩⟩
      · refine Kd.R_lit_step (Kd.int .i64) (w0 := w10) w10.heap.size 3 (by rfl) (N := 104) rfl (xs := ([0] : List Int)) (inner := [.int .i64 0]) (ok := fun _ => True) (okp := fun _ => True) (by first | (go_simp; done) | (go_simp; rfl)) ((Reps.none _ _).snoc (p := (0 : Int)) (c := [Value.int .i64 0]) rfl rfl) (fun _ h => h) trivial hHeld hHeld.size (by simp) ?_
        intro v104 W1 ho104 hb hg104 hat104
        refine hK.out _ _ hb (fun hHeld2 => ?_)
        clear hK K hb
        refine norm_ (a' := ?_) ?_ ?_
        rotate_left
        · show Act.put _ (some 104) _ = _
          simp only [Act.put, List.setIfInBounds_toArray, List.set_cons_zero, List.set_cons_succ]
          rfl
        refine one_ (i := 1) (N := some 101) #[true, true, true, false, true, false, false, false, false, false, false] rfl rfl (by kernel_rfl) (by decide) (fun K hK => ?_)
        refine Kd.R_lit_step (Kd.int .i64) (w0 := w10) w10.heap.size 3 (by rfl) (N := 101) rfl (xs := ([] : List Int)) (inner := []) (ok := fun _ => True) (okp := fun _ => True) (by first | (go_simp; done) | (go_simp; rfl)) (Reps.none _ _) (fun _ h => h) trivial hHeld2 hHeld2.size (by simp) ?_
        intro v101 W2 ho101 hb hg101 hat101
        refine hK.out _ _ hb (fun hHeld3 => ?_)
        clear hK K hb
        refine norm_ (a' := ?_) ?_ ?_
        rotate_left
        · show Act.put _ (some 101) _ = _
          simp only [Act.put, List.setIfInBounds_toArray, List.set_cons_zero, List.set_cons_succ]
          rfl
        have hne : v101.ownBlock ≠ v104.ownBlock := fun h => by obtain ⟨b, h1, h2⟩ := hat101; have := Kd.R_lt ho104 b (by rw [← h]; exact h1); omega
        replace ho104 := Kd.R_grown2 ho104 rfl hg101 (fun k hk => by cases hk)
        refine one_ (i := 3) (N := some 103) #[true, true, true, true, true, false, false, false, false, false, false] rfl rfl (by kernel_rfl) (by decide) (fun K hK => ?_)
        refine append_rows_step (Kd.int .i64) (w0 := w10) w10.heap.size (by rfl) (.tmp 101) (.tmp 102) 24 3 (.int .i64 0) 8 rfl Try.underlying24 info3 rfl (by decide) (by omega) v101 ([] : List Int) items _ _ _ (fun _ => True) (fun _ => False) rfl rfl ho101 (Kd.C_below HI.out hHeld3) (fun _ _ h => h) (fun _ h => h.elim) (fun _ _ => trivial) hHeld3 hHeld3.size (by have := HLEN.out; simp only [List.length_nil]; omega) ?_
        intro v103 W3 ho103 hb hg103 hat103
        refine hK.out _ _ hb (fun hHeld4 => ?_)
        clear hK K hb
        refine norm_ (a' := ?_) ?_ ?_
        rotate_left
        · show Act.put _ (some 103) _ = _
          simp only [Act.put, List.setIfInBounds_toArray, List.set_cons_zero, List.set_cons_succ]
          rfl
        replace ho104 := Kd.R_grown1 ho104 rfl hg103 hne
        obtain ⟨A104, c104, e104⟩ := Kd.R_slice ho104
        subst e104
        refine one_ (i := 5) (N := some 105) #[true, true, true, true, true, true, false, false, false, false, false] rfl rfl (by kernel_rfl) (by decide) (fun K hK => ?_)
        refine append_rows_step (Kd.int .i64) (w0 := w10) w10.heap.size (by rfl) (.tmp 103) (.tmp 104) 24 3 (.int .i64 0) 8 rfl Try.underlying24 info3 rfl (by decide) (by omega) v103 items ([0] : List Int) _ _ _ (fun _ => True) (fun _ => False) rfl rfl ho103 (Kd.R_reads' ho104).2.2 (fun _ _ h => h) (fun _ h => h.elim) (fun _ _ => trivial) hHeld4 hHeld4.size (by have := HLEN.out; simp only [List.length_cons, List.length_nil]; omega) ?_
        intro v105 W105 ho105 hb hg hat
        rw [HITZ.out] at ho105
        obtain ⟨A105, c105, e105, hc105, hC105⟩ := row_get ho105
        subst e105
        refine hK.out _ _ hb (fun hHeld8 => ?_)
        clear hK K hb hg hat ho105
        refine norm_ (a' := ?_) ?_ ?_
        rotate_left
        · show Act.put _ (some 105) _ = _
          simp only [Act.put, List.setIfInBounds_toArray, List.set_cons_zero, List.set_cons_succ]
          rfl
        refine one_ (i := 6) (N := some 106) #[true, true, true, true, true, true, true, false, false, false, false] rfl rfl (by kernel_rfl) (by decide) (fun K hK => ?_)
        refine goes_ Try.func23 (by kernel_rfl) rfl #[.agg #[.slice P0 (machL l1).length k0, .slice P1 seats.length k1, .slice P2 F.length k2, .slice P3 S.length k3], .slice A105 itz.length c105] (by rfl) rfl rfl (by (try simp only [List.map_toArray, List.map_cons, List.map_nil]); first | done | rfl) ?_
        refine (sequence_Sort.calls P0 k0 (machL l1) P1 k1 seats P2 k2 F P3 k3 S A105 c105 itz [] [] [] 6 W105 (Kd.C_below HP0.out hHeld8) hk0 (Kd.C_below HP1.out hHeld8) hk1 (Kd.C_below HP2.out hHeld8) hk2 (Kd.C_below HP3.out hHeld8) hk3 hC105 hc105 HS6.out).mono ?_
        rintro e W9 ⟨v0, v1, v2, rfl, ho0, ho1, ho2, hb⟩
        refine ⟨_, rfl, ?_⟩
        refine hK.out _ _ (below_then hHeld8 hHeld8.size hb) (fun hHeld9 => ?_)
        clear hK K hb ho0 ho1 ho2
        refine pure_ (i := 7) (N := some 99) (v := ?_) (a' := ?_) #[true, true, true, true, true, true, true, true, false, false, false] rfl rfl (by kernel_rfl) (fun _ _ _ h => h) (Or.inl ⟨by rfl, ?_⟩) ?_ ?_
        rotate_left
        · intro w'
          go_simp
          with_reducible rfl
        rotate_left
        · simp only [Act.put, List.setIfInBounds_toArray, List.set_cons_zero, List.set_cons_succ, i64_w, i32_w]
          rfl
        refine pure_ (i := 8) (N := some 107) (v := ?_) (a' := ?_) #[true, true, true, true, true, true, true, true, true, false, false] rfl rfl (by kernel_rfl) (fun _ _ _ h => h) (Or.inl ⟨by rfl, ?_⟩) ?_ ?_
        rotate_left
        · intro w'
          go_simp
          with_reducible rfl
        rotate_left
        · simp only [Act.put, List.setIfInBounds_toArray, List.set_cons_zero, List.set_cons_succ, i64_w, i32_w]
          rfl
        refine pure_ (i := 9) (N := some 108) (v := ?_) (a' := ?_) #[true, true, true, true, true, true, true, true, true, true, false] rfl rfl (by kernel_rfl) (fun _ _ _ h => h) (Or.inl ⟨by rfl, ?_⟩) ?_ ?_
        rotate_left
        · intro w'
          go_simp
          with_reducible rfl
        rotate_left
        · simp only [Act.put, List.setIfInBounds_toArray, List.set_cons_zero, List.set_cons_succ, i64_w, i32_w]
          rfl
        refine pure_ (i := 10) (N := some 11) (v := ?_) (a' := ?_) #[true, true, true, true, true, true, true, true, true, true, true] rfl rfl (by kernel_rfl) (fun _ _ _ h => h) (Or.inl ⟨by rfl, ?_⟩) ?_ ?_
        rotate_left
        · intro w'
          go_simp
          with_reducible rfl
        rotate_left
        · simp only [Act.put, List.setIfInBounds_toArray, List.set_cons_zero, List.set_cons_succ, i64_w, i32_w]
          rfl
        refine done_ (by kernel_rfl) ?_
        go_wp2
        go_meet
        case rel => exact ⟨rfl, ⟨hHeld9⟩⟩
    case rest =>
      obtain ⟨rfl, hcB⟩ := hcut
      have hbc := hcB.out
      have hb9c : Below w9.heap.size w9 wc := below_then HBX.out HBX.out.size hbc
      clear HP0 HP1 HP2 HP3 pc0 pc1 pc2 pc3
      replace HPB := Aside0.mk (blk_below HPB.out hbc)
      have HBc := Aside0.mk (below_then HBa.out HBa.out.size hbc)
      have HB9c := Aside0.mk hb9c
      have hl7 := Kd.C_below HR7.out HBc.out
      have HL7 := Aside0.mk hl7
      have HP0 := Aside0.mk (Kd.C_below HQ0.out hb9c)
      have HP1 := Aside0.mk (Kd.C_below HQ1.out hb9c)
      have HP2 := Aside0.mk (Kd.C_below HQ2.out hb9c)
      have HP3 := Aside0.mk (Kd.C_below HQ3.out hb9c)
      have pc0 : wc.cell? ⟨gp, 0, none⟩ = some (.slice P0 (machL l1).length k0) := (blk_cell HPB.out 0).trans rfl
      have pc1 : wc.cell? ⟨gp, 1, none⟩ = some (.slice P1 seats.length k1) := (blk_cell HPB.out 1).trans rfl
      have pc2 : wc.cell? ⟨gp, 2, none⟩ = some (.slice P2 F.length k2) := (blk_cell HPB.out 2).trans rfl
      have pc3 : wc.cell? ⟨gp, 3, none⟩ = some (.slice P3 S.length k3) := (blk_cell HPB.out 3).trans rfl
      clear hl7 hb9c hbc hcB
      obtain ⟨wo, rfl⟩ : ∃ wo : World, wo = wc := ⟨_, rfl⟩
      go_upto_if 113 with (fail)
      go_cut [11] from 114 to 161 (fun v11 wc => Aside0 (Below wo.heap.size wo wc))
      case first =>
        by_cases hz : 0 < (routeL l0).length
        · have e1 : decide (0 < (routeL l0).length) = true := decide_eq_true hz
          obtain ⟨ad, rfl, hx0, hx1⟩ := at_T27 HL7.out (0 : Int) (by omega) (by omega)
          simp only [Int.toNat_zero, Nat.zero_mul, Nat.zero_add, Addr.add_zero'] at hx0 hx1
          have hrd : rd_T27 (routeL l0) 0 = (routeL l0)[0] := by simp [rd_T27, List.getD_eq_getElem?_getD, List.getElem?_eq_getElem hz]
          have HS4x := HS4.out hz
          rw [hrd] at hx0 hx1
          generalize (routeL l0)[0].f0 = id at hx0 HS4x
          replace HS4x := Aside0.mk HS4x
          clear hrd hx1
          go_wp2
          refine start_ (n := 47) (S := fun w' => Below wo.heap.size wo w') (ds := []) #[false, false, false, false, false, false, false, false, false, false, false, false, false, false, false, false, false, false, false, false, false, false, false, false, false, false, false, false, false, false, false, false, false, false, false, false, false, false, false, false, false, false, false, false, false, false, false] (by kernel_rfl) rfl rfl (below_drew1 (Below.refl _ _)) (fun hHeld => ?_)
          generalize wo.drew = wd at hHeld ⊢
          refine take_ (i := 0) (N := some 115) (v := ?_) (a' := ?_) #[true, false, false, false, false, false, false, false, false, false, false, false, false, false, false, false, false, false, false, false, false, false, false, false, false, false, false, false, false, false, false, false, false, false, false, false, false, false, false, false, false, false, false, false, false, false, false] rfl rfl (by kernel_rfl) (fun _ _ _ h => h) (Or.inl ⟨by rfl, ?_⟩) hHeld ?_ ?_
          rotate_left
          · rintro w' s0
            have f0 := (s0.cell (World.block_lt_of_cell? _ _ pc0)).trans pc0
            have f1 := (s0.cell (World.block_lt_of_cell? _ _ pc1)).trans pc1
            have f2 := (s0.cell (World.block_lt_of_cell? _ _ pc2)).trans pc2
            have f3 := (s0.cell (World.block_lt_of_cell? _ _ pc3)).trans pc3
            go_simp
            with_reducible rfl
          rotate_left
          · simp only [Act.put, List.setIfInBounds_toArray, List.set_cons_zero, List.set_cons_succ, i64_w, i32_w]
            rfl
          refine pure_ (i := 1) (N := some 116) (v := ?_) (a' := ?_) #[true, true, false, false, false, false, false, false, false, false, false, false, false, false, false, false, false, false, false, false, false, false, false, false, false, false, false, false, false, false, false, false, false, false, false, false, false, false, false, false, false, false, false, false, false, false, false] rfl rfl (by kernel_rfl) (fun _ _ _ h => h) (Or.inl ⟨by rfl, ?_⟩) ?_ ?_
          rotate_left
          · intro w'
            go_simp
            with_reducible rfl
          rotate_left
          · simp only [Act.put, List.setIfInBounds_toArray, List.set_cons_zero, List.set_cons_succ, i64_w, i32_w]
            rfl
          refine pure_ (i := 2) (N := some 117) (v := ?_) (a' := ?_) #[true, true, true, false, false, false, false, false, false, false, false, false, false, false, false, false, false, false, false, false, false, false, false, false, false, false, false, false, false, false, false, false, false, false, false, false, false, false, false, false, false, false, false, false, false, false, false] rfl rfl (by kernel_rfl) (fun _ _ _ h => h) (Or.inl ⟨by rfl, ?_⟩) ?_ ?_
          rotate_left
          · intro w'
            go_simp
            with_reducible rfl
          rotate_left
          · simp only [Act.put, List.setIfInBounds_toArray, List.set_cons_zero, List.set_cons_succ, i64_w, i32_w]
            rfl
          refine pure_ (i := 3) (N := some 118) (v := ?_) (a' := ?_) #[true, true, true, true, false, false, false, false, false, false, false, false, false, false, false, false, false, false, false, false, false, false, false, false, false, false, false, false, false, false, false, false, false, false, false, false, false, false, false, false, false, false, false, false, false, false, false] rfl rfl (by kernel_rfl) (fun _ _ _ h => h) (Or.inl ⟨by rfl, ?_⟩) ?_ ?_
          rotate_left
          · intro w'
            go_simp
            with_reducible rfl
          rotate_left
          · simp only [Act.put, List.setIfInBounds_toArray, List.set_cons_zero, List.set_cons_succ, i64_w, i32_w]
            rfl
          refine take_ (i := 4) (N := some 119) (v := ?_) (a' := ?_) #[true, true, true, true, true, false, false, false, false, false, false, false, false, false, false, false, false, false, false, false, false, false, false, false, false, false, false, false, false, false, false, false, false, false, false, false, false, false, false, false, false, false, false, false, false, false, false] rfl rfl (by kernel_rfl) (fun _ _ _ h => h) (Or.inl ⟨by rfl, ?_⟩) hHeld ?_ ?_
          rotate_left
          · rintro w' s0
            have f0 := (s0.cell (World.block_lt_of_cell? _ _ hx0)).trans hx0
            go_simp
            with_reducible rfl
          rotate_left
          · simp only [Act.put, List.setIfInBounds_toArray, List.set_cons_zero, List.set_cons_succ, i64_w, i32_w]
            rfl
          refine pure_ (i := 5) (N := some 120) (v := ?_) (a' := ?_) #[true, true, true, true, true, true, false, false, false, false, false, false, false, false, false, false, false, false, false, false, false, false, false, false, false, false, false, false, false, false, false, false, false, false, false, false, false, false, false, false, false, false, false, false, false, false, false] rfl rfl (by kernel_rfl) (fun _ _ _ h => h) (Or.inl ⟨by rfl, ?_⟩) ?_ ?_
          rotate_left
          · intro w'
            go_simp
            with_reducible rfl
          rotate_left
          · simp only [Act.put, List.setIfInBounds_toArray, List.set_cons_zero, List.set_cons_succ, i64_w, i32_w]
            rfl
          refine pure_ (i := 6) (N := some 121) (v := ?_) (a' := ?_) #[true, true, true, true, true, true, true, false, false, false, false, false, false, false, false, false, false, false, false, false, false, false, false, false, false, false, false, false, false, false, false, false, false, false, false, false, false, false, false, false, false, false, false, false, false, false, false] rfl rfl (by kernel_rfl) (fun _ _ _ h => h) (Or.inl ⟨by rfl, ?_⟩) ?_ ?_
          rotate_left
          · intro w'
            go_simp
            with_reducible rfl
          rotate_left
          · simp only [Act.put, List.setIfInBounds_toArray, List.set_cons_zero, List.set_cons_succ, i64_w, i32_w]
            rfl
          refine pure_ (i := 7) (N := some 122) (v := ?_) (a' := ?_) #[true, true, true, true, true, true, true, true, false, false, false, false, false, false, false, false, false, false, false, false, false, false, false, false, false, false, false, false, false, false, false, false, false, false, false, false, false, false, false, false, false, false, false, false, false, false, false] rfl rfl (by kernel_rfl) (fun _ _ _ h => h) (Or.inl ⟨by rfl, ?_⟩) ?_ ?_
          rotate_left
          · intro w'
            go_simp
            with_reducible rfl
          rotate_left
          · simp only [Act.put, List.setIfInBounds_toArray, List.set_cons_zero, List.set_cons_succ, i64_w, i32_w]
            rfl
          refine take_ (i := 8) (N := some 123) (v := ?_) (a' := ?_) #[true, true, true, true, true, true, true, true, true, false, false, false, false, false, false, false, false, false, false, false, false, false, false, false, false, false, false, false, false, false, false, false, false, false, false, false, false, false, false, false, false, false, false, false, false, false, false] rfl rfl (by kernel_rfl) (fun _ _ _ h => h) (Or.inl ⟨by rfl, ?_⟩) hHeld ?_ ?_
          rotate_left
          · rintro w' s0
            have f0 := (s0.cell (World.block_lt_of_cell? _ _ hx0)).trans hx0
            go_simp
            with_reducible rfl
          rotate_left
          · simp only [Act.put, List.setIfInBounds_toArray, List.set_cons_zero, List.set_cons_succ, i64_w, i32_w]
            rfl
          refine pure_ (i := 9) (N := some 124) (v := ?_) (a' := ?_) #[true, true, true, true, true, true, true, true, true, true, false, false, false, false, false, false, false, false, false, false, false, false, false, false, false, false, false, false, false, false, false, false, false, false, false, false, false, false, false, false, false, false, false, false, false, false, false] rfl rfl (by kernel_rfl) (fun _ _ _ h => h) (Or.inl ⟨by rfl, ?_⟩) ?_ ?_
          rotate_left
          · intro w'
            go_simp
            with_reducible rfl
          rotate_left
          · simp only [Act.put, List.setIfInBounds_toArray, List.set_cons_zero, List.set_cons_succ, i64_w, i32_w]
            rfl
          refine pure_ (i := 10) (N := some 125) (v := ?_) (a' := ?_) #[true, true, true, true, true, true, true, true, true, true, true, false, false, false, false, false, false, false, false, false, false, false, false, false, false, false, false, false, false, false, false, false, false, false, false, false, false, false, false, false, false, false, false, false, false, false, false] rfl rfl (by kernel_rfl) (fun _ _ _ h => h) (Or.inl ⟨by rfl, ?_⟩) ?_ ?_
          rotate_left
          · intro w'
            go_simp
            with_reducible rfl
          rotate_left
          · simp only [Act.put, List.setIfInBounds_toArray, List.set_cons_zero, List.set_cons_succ, i64_w, i32_w]
            rfl
          refine pure_ (i := 11) (N := some 126) (v := ?_) (a' := ?_) #[true, true, true, true, true, true, true, true, true, true, true, true, false, false, false, false, false, false, false, false, false, false, false, false, false, false, false, false, false, false, false, false, false, false, false, false, false, false, false, false, false, false, false, false, false, false, false] rfl rfl (by kernel_rfl) (fun _ _ _ h => h) (Or.inl ⟨by rfl, ?_⟩) ?_ ?_
          rotate_left
          · intro w'
            go_simp
            with_reducible rfl
          rotate_left
          · simp only [Act.put, List.setIfInBounds_toArray, List.set_cons_zero, List.set_cons_succ, i64_w, i32_w]
            rfl
          refine take_ (i := 12) (N := some 127) (v := ?_) (a' := ?_) #[true, true, true, true, true, true, true, true, true, true, true, true, true, false, false, false, false, false, false, false, false, false, false, false, false, false, false, false, false, false, false, false, false, false, false, false, false, false, false, false, false, false, false, false, false, false, false] rfl rfl (by kernel_rfl) (fun _ _ _ h => h) (Or.inl ⟨by rfl, ?_⟩) hHeld ?_ ?_
          rotate_left
          · rintro w' s0
            have f0 := (s0.cell (World.block_lt_of_cell? _ _ hx0)).trans hx0
            go_simp
            with_reducible rfl
          rotate_left
          · simp only [Act.put, List.setIfInBounds_toArray, List.set_cons_zero, List.set_cons_succ, i64_w, i32_w]
            rfl
          refine pure_ (i := 13) (N := some 128) (v := ?_) (a' := ?_) #[true, true, true, true, true, true, true, true, true, true, true, true, true, true, false, false, false, false, false, false, false, false, false, false, false, false, false, false, false, false, false, false, false, false, false, false, false, false, false, false, false, false, false, false, false, false, false] rfl rfl (by kernel_rfl) (fun _ _ _ h => h) (Or.inl ⟨by rfl, ?_⟩) ?_ ?_
          rotate_left
          · intro w'
            go_simp
            with_reducible rfl
          rotate_left
          · simp only [Act.put, List.setIfInBounds_toArray, List.set_cons_zero, List.set_cons_succ, i64_w, i32_w]
            rfl
          refine pure_ (i := 14) (N := some 129) (v := ?_) (a' := ?_) #[true, true, true, true, true, true, true, true, true, true, true, true, true, true, true, false, false, false, false, false, false, false, false, false, false, false, false, false, false, false, false, false, false, false, false, false, false, false, false, false, false, false, false, false, false, false, false] rfl rfl (by kernel_rfl) (fun _ _ _ h => h) (Or.inl ⟨by rfl, ?_⟩) ?_ ?_
          rotate_left
          · intro w'
            go_simp
            with_reducible rfl
          rotate_left
          · simp only [Act.put, List.setIfInBounds_toArray, List.set_cons_zero, List.set_cons_succ, i64_w, i32_w]
            rfl
          refine pure_ (i := 15) (N := some 130) (v := ?_) (a' := ?_) #[true, true, true, true, true, true, true, true, true, true, true, true, true, true, true, true, false, false, false, false, false, false, false, false, false, false, false, false, false, false, false, false, false, false, false, false, false, false, false, false, false, false, false, false, false, false, false] rfl rfl (by kernel_rfl) (fun _ _ _ h => h) (Or.inl ⟨by rfl, ?_⟩) ?_ ?_
          rotate_left
          · intro w'
            go_simp
            with_reducible rfl
          rotate_left
          · simp only [Act.put, List.setIfInBounds_toArray, List.set_cons_zero, List.set_cons_succ, i64_w, i32_w]
            rfl
          refine take_ (i := 16) (N := some 131) (v := ?_) (a' := ?_) #[true, true, true, true, true, true, true, true, true, true, true, true, true, true, true, true, true, false, false, false, false, false, false, false, false, false, false, false, false, false, false, false, false, false, false, false, false, false, false, false, false, false, false, false, false, false, false] rfl rfl (by kernel_rfl) (fun _ _ _ h => h) (Or.inl ⟨by rfl, ?_⟩) hHeld ?_ ?_
          rotate_left
          · rintro w' s0
            have f0 := (s0.cell (World.block_lt_of_cell? _ _ hx0)).trans hx0
            go_simp
            with_reducible rfl
          rotate_left
          · simp only [Act.put, List.setIfInBounds_toArray, List.set_cons_zero, List.set_cons_succ, i64_w, i32_w]
            rfl
          refine pure_ (i := 17) (N := some 132) (v := ?_) (a' := ?_) #[true, true, true, true, true, true, true, true, true, true, true, true, true, true, true, true, true, true, false, false, false, false, false, false, false, false, false, false, false, false, false, false, false, false, false, false, false, false, false, false, false, false, false, false, false, false, false] rfl rfl (by kernel_rfl) (fun _ _ _ h => h) (Or.inl ⟨by rfl, ?_⟩) ?_ ?_
          rotate_left
          · intro w'
            go_simp
            with_reducible rfl
          rotate_left
          · simp only [Act.put, List.setIfInBounds_toArray, List.set_cons_zero, List.set_cons_succ, i64_w, i32_w]
            rfl
          refine pure_ (i := 18) (N := some 133) (v := ?_) (a' := ?_) #[true, true, true, true, true, true, true, true, true, true, true, true, true, true, true, true, true, true, true, false, false, false, false, false, false, false, false, false, false, false, false, false, false, false, false, false, false, false, false, false, false, false, false, false, false, false, false] rfl rfl (by kernel_rfl) (fun _ _ _ h => h) (Or.inl ⟨by rfl, ?_⟩) ?_ ?_
          rotate_left
          · intro w'
            go_simp
            with_reducible rfl
          rotate_left
          · simp only [Act.put, List.setIfInBounds_toArray, List.set_cons_zero, List.set_cons_succ, i64_w, i32_w]
            rfl
          refine pure_ (i := 19) (N := some 134) (v := ?_) (a' := ?_) #[true, true, true, true, true, true, true, true, true, true, true, true, true, true, true, true, true, true, true, true, false, false, false, false, false, false, false, false, false, false, false, false, false, false, false, false, false, false, false, false, false, false, false, false, false, false, false] rfl rfl (by kernel_rfl) (fun _ _ _ h => h) (Or.inl ⟨by rfl, ?_⟩) ?_ ?_
          rotate_left
          · intro w'
            go_simp
            with_reducible rfl
          rotate_left
          · simp only [Act.put, List.setIfInBounds_toArray, List.set_cons_zero, List.set_cons_succ, i64_w, i32_w]
            rfl
          refine take_ (i := 20) (N := some 135) (v := ?_) (a' := ?_) #[true, true, true, true, true, true, true, true, true, true, true, true, true, true, true, true, true, true, true, true, true, false, false, false, false, false, false, false, false, false, false, false, false, false, false, false, false, false, false, false, false, false, false, false, false, false, false] rfl rfl (by kernel_rfl) (fun _ _ _ h => h) (Or.inl ⟨by rfl, ?_⟩) hHeld ?_ ?_
          rotate_left
          · rintro w' s0
            have f0 := (s0.cell (World.block_lt_of_cell? _ _ hx0)).trans hx0
            go_simp
            with_reducible rfl
          rotate_left
          · simp only [Act.put, List.setIfInBounds_toArray, List.set_cons_zero, List.set_cons_succ, i64_w, i32_w]
            rfl
          refine pure_ (i := 21) (N := some 136) (v := ?_) (a' := ?_) #[true, true, true, true, true, true, true, true, true, true, true, true, true, true, true, true, true, true, true, true, true, true, false, false, false, false, false, false, false, false, false, false, false, false, false, false, false, false, false, false, false, false, false, false, false, false, false] rfl rfl (by kernel_rfl) (fun _ _ _ h => h) (Or.inl ⟨by rfl, ?_⟩) ?_ ?_
          rotate_left
          · intro w'
            go_simp
            with_reducible rfl
          rotate_left
          · simp only [Act.put, List.setIfInBounds_toArray, List.set_cons_zero, List.set_cons_succ, i64_w, i32_w]
            rfl
          refine pure_ (i := 22) (N := some 137) (v := ?_) (a' := ?_) #[true, true, true, true, true, true, true, true, true, true, true, true, true, true, true, true, true, true, true, true, true, true, true, false, false, false, false, false, false, false, false, false, false, false, false, false, false, false, false, false, false, false, false, false, false, false, false] rfl rfl (by kernel_rfl) (fun _ _ _ h => h) (Or.inl ⟨by rfl, ?_⟩) ?_ ?_
          rotate_left
          · intro w'
            go_simp
            with_reducible rfl
          rotate_left
          · simp only [Act.put, List.setIfInBounds_toArray, List.set_cons_zero, List.set_cons_succ, i64_w, i32_w]
            rfl
          refine pure_ (i := 23) (N := some 138) (v := ?_) (a' := ?_) #[true, true, true, true, true, true, true, true, true, true, true, true, true, true, true, true, true, true, true, true, true, true, true, true, false, false, false, false, false, false, false, false, false, false, false, false, false, false, false, false, false, false, false, false, false, false, false] rfl rfl (by kernel_rfl) (fun _ _ _ h => h) (Or.inl ⟨by rfl, ?_⟩) ?_ ?_
          rotate_left
          · intro w'
            go_simp
            with_reducible rfl
          rotate_left
          · simp only [Act.put, List.setIfInBounds_toArray, List.set_cons_zero, List.set_cons_succ, i64_w, i32_w]
            rfl
          refine take_ (i := 24) (N := some 139) (v := ?_) (a' := ?_) #[true, true, true, true, true, true, true, true, true, true, true, true, true, true, true, true, true, true, true, true, true, true, true, true, true, false, false, false, false, false, false, false, false, false, false, false, false, false, false, false, false, false, false, false, false, false, false] rfl rfl (by kernel_rfl) (fun _ _ _ h => h) (Or.inl ⟨by rfl, ?_⟩) hHeld ?_ ?_
          rotate_left
          · rintro w' s0
            have f0 := (s0.cell (World.block_lt_of_cell? _ _ hx0)).trans hx0
            go_simp
            with_reducible rfl
          rotate_left
          · simp only [Act.put, List.setIfInBounds_toArray, List.set_cons_zero, List.set_cons_succ, i64_w, i32_w]
            rfl
          refine pure_ (i := 25) (N := some 140) (v := ?_) (a' := ?_) #[true, true, true, true, true, true, true, true, true, true, true, true, true, true, true, true, true, true, true, true, true, true, true, true, true, true, false, false, false, false, false, false, false, false, false, false, false, false, false, false, false, false, false, false, false, false, false] rfl rfl (by kernel_rfl) (fun _ _ _ h => h) (Or.inl ⟨by rfl, ?_⟩) ?_ ?_
          rotate_left
          · intro w'
            go_simp
            with_reducible rfl
          rotate_left
          · simp only [Act.put, List.setIfInBounds_toArray, List.set_cons_zero, List.set_cons_succ, i64_w, i32_w]
            rfl
          refine pure_ (i := 26) (N := some 141) (v := ?_) (a' := ?_) #[true, true, true, true, true, true, true, true, true, true, true, true, true, true, true, true, true, true, true, true, true, true, true, true, true, true, true, false, false, false, false, false, false, false, false, false, false, false, false, false, false, false, false, false, false, false, false] rfl rfl (by kernel_rfl) (fun _ _ _ h => h) (Or.inl ⟨by rfl, ?_⟩) ?_ ?_
          rotate_left
          · intro w'
            go_simp
            with_reducible rfl
          rotate_left
          · simp only [Act.put, List.setIfInBounds_toArray, List.set_cons_zero, List.set_cons_succ, i64_w, i32_w]
            rfl
          refine pure_ (i := 27) (N := some 142) (v := ?_) (a' := ?_) #[true, true, true, true, true, true, true, true, true, true, true, true, true, true, true, true, true, true, true, true, true, true, true, true, true, true, true, true, false, false, false, false, false, false, false, false, false, false, false, false, false, false, false, false, false, false, false] rfl rfl (by kernel_rfl) (fun _ _ _ h => h) (Or.inl ⟨by rfl, ?_⟩) ?_ ?_
          rotate_left
          · intro w'
            go_simp
            with_reducible rfl
          rotate_left
          · simp only [Act.put, List.setIfInBounds_toArray, List.set_cons_zero, List.set_cons_succ, i64_w, i32_w]
            rfl
          refine take_ (i := 28) (N := some 143) (v := ?_) (a' := ?_) #[true, true, true, true, true, true, true, true, true, true, true, true, true, true, true, true, true, true, true, true, true, true, true, true, true, true, true, true, true, false, false, false, false, false, false, false, false, false, false, false, false, false, false, false, false, false, false] rfl rfl (by kernel_rfl) (fun _ _ _ h => h) (Or.inl ⟨by rfl, ?_⟩) hHeld ?_ ?_
          rotate_left
          · rintro w' s0
            have f0 := (s0.cell (World.block_lt_of_cell? _ _ hx0)).trans hx0
            go_simp
            with_reducible rfl
          rotate_left
          · simp only [Act.put, List.setIfInBounds_toArray, List.set_cons_zero, List.set_cons_succ, i64_w, i32_w]
            rfl
          refine pure_ (i := 29) (N := some 144) (v := ?_) (a' := ?_) #[true, true, true, true, true, true, true, true, true, true, true, true, true, true, true, true, true, true, true, true, true, true, true, true, true, true, true, true, true, true, false, false, false, false, false, false, false, false, false, false, false, false, false, false, false, false, false] rfl rfl (by kernel_rfl) (fun _ _ _ h => h) (Or.inl ⟨by rfl, ?_⟩) ?_ ?_
          rotate_left
          · intro w'
            go_simp
            with_reducible rfl
          rotate_left
          · simp only [Act.put, List.setIfInBounds_toArray, List.set_cons_zero, List.set_cons_succ, i64_w, i32_w]
            rfl
          refine pure_ (i := 30) (N := some 145) (v := ?_) (a' := ?_) #[true, true, true, true, true, true, true, true, true, true, true, true, true, true, true, true, true, true, true, true, true, true, true, true, true, true, true, true, true, true, true, false, false, false, false, false, false, false, false, false, false, false, false, false, false, false, false] rfl rfl (by kernel_rfl) (fun _ _ _ h => h) (Or.inl ⟨by rfl, ?_⟩) ?_ ?_
          rotate_left
          · intro w'
            go_simp
            with_reducible rfl
          rotate_left
          · simp only [Act.put, List.setIfInBounds_toArray, List.set_cons_zero, List.set_cons_succ, i64_w, i32_w]
            rfl
          refine pure_ (i := 31) (N := some 146) (v := ?_) (a' := ?_) #[true, true, true, true, true, true, true, true, true, true, true, true, true, true, true, true, true, true, true, true, true, true, true, true, true, true, true, true, true, true, true, true, false, false, false, false, false, false, false, false, false, false, false, false, false, false, false] rfl rfl (by kernel_rfl) (fun _ _ _ h => h) (Or.inl ⟨by rfl, ?_⟩) ?_ ?_
          rotate_left
          · intro w'
            go_simp
            with_reducible rfl
          rotate_left
          · simp only [Act.put, List.setIfInBounds_toArray, List.set_cons_zero, List.set_cons_succ, i64_w, i32_w]
            rfl
          refine take_ (i := 32) (N := some 147) (v := ?_) (a' := ?_) #[true, true, true, true, true, true, true, true, true, true, true, true, true, true, true, true, true, true, true, true, true, true, true, true, true, true, true, true, true, true, true, true, true, false, false, false, false, false, false, false, false, false, false, false, false, false, false] rfl rfl (by kernel_rfl) (fun _ _ _ h => h) (Or.inl ⟨by rfl, ?_⟩) hHeld ?_ ?_
          rotate_left
          · rintro w' s0
            have f0 := (s0.cell (World.block_lt_of_cell? _ _ hx0)).trans hx0
            go_simp
            with_reducible rfl
          rotate_left
          · simp only [Act.put, List.setIfInBounds_toArray, List.set_cons_zero, List.set_cons_succ, i64_w, i32_w]
            rfl
          refine pure_ (i := 33) (N := some 148) (v := ?_) (a' := ?_) #[true, true, true, true, true, true, true, true, true, true, true, true, true, true, true, true, true, true, true, true, true, true, true, true, true, true, true, true, true, true, true, true, true, true, false, false, false, false, false, false, false, false, false, false, false, false, false] rfl rfl (by kernel_rfl) (fun _ _ _ h => h) (Or.inl ⟨by rfl, ?_⟩) ?_ ?_
          rotate_left
          · intro w'
            go_simp
            with_reducible rfl
          rotate_left
          · simp only [Act.put, List.setIfInBounds_toArray, List.set_cons_zero, List.set_cons_succ, i64_w, i32_w]
            rfl
          refine pure_ (i := 34) (N := some 149) (v := ?_) (a' := ?_) #[true, true, true, true, true, true, true, true, true, true, true, true, true, true, true, true, true, true, true, true, true, true, true, true, true, true, true, true, true, true, true, true, true, true, true, false, false, false, false, false, false, false, false, false, false, false, false] rfl rfl (by kernel_rfl) (fun _ _ _ h => h) (Or.inl ⟨by rfl, ?_⟩) ?_ ?_
          rotate_left
          · intro w'
            go_simp
            with_reducible rfl
          rotate_left
          · simp only [Act.put, List.setIfInBounds_toArray, List.set_cons_zero, List.set_cons_succ, i64_w, i32_w]
            rfl
          refine pure_ (i := 35) (N := some 150) (v := ?_) (a' := ?_) #[true, true, true, true, true, true, true, true, true, true, true, true, true, true, true, true, true, true, true, true, true, true, true, true, true, true, true, true, true, true, true, true, true, true, true, true, false, false, false, false, false, false, false, false, false, false, false] rfl rfl (by kernel_rfl) (fun _ _ _ h => h) (Or.inl ⟨by rfl, ?_⟩) ?_ ?_
          rotate_left
          · intro w'
            go_simp
            with_reducible rfl
          rotate_left
          · simp only [Act.put, List.setIfInBounds_toArray, List.set_cons_zero, List.set_cons_succ, i64_w, i32_w]
            rfl
          refine take_ (i := 36) (N := some 151) (v := ?_) (a' := ?_) #[true, true, true, true, true, true, true, true, true, true, true, true, true, true, true, true, true, true, true, true, true, true, true, true, true, true, true, true, true, true, true, true, true, true, true, true, true, false, false, false, false, false, false, false, false, false, false] rfl rfl (by kernel_rfl) (fun _ _ _ h => h) (Or.inl ⟨by rfl, ?_⟩) hHeld ?_ ?_
          rotate_left
          · rintro w' s0
            have f0 := (s0.cell (World.block_lt_of_cell? _ _ hx0)).trans hx0
            go_simp
            with_reducible rfl
          rotate_left
          · simp only [Act.put, List.setIfInBounds_toArray, List.set_cons_zero, List.set_cons_succ, i64_w, i32_w]
            rfl
          refine pure_ (i := 37) (N := some 152) (v := ?_) (a' := ?_) #[true, true, true, true, true, true, true, true, true, true, true, true, true, true, true, true, true, true, true, true, true, true, true, true, true, true, true, true, true, true, true, true, true, true, true, true, true, true, false, false, false, false, false, false, false, false, false] rfl rfl (by kernel_rfl) (fun _ _ _ h => h) (Or.inl ⟨by rfl, ?_⟩) ?_ ?_
          rotate_left
          · intro w'
            go_simp
            with_reducible rfl
          rotate_left
          · simp only [Act.put, List.setIfInBounds_toArray, List.set_cons_zero, List.set_cons_succ, i64_w, i32_w]
            rfl
          refine pure_ (i := 38) (N := some 153) (v := ?_) (a' := ?_) #[true, true, true, true, true, true, true, true, true, true, true, true, true, true, true, true, true, true, true, true, true, true, true, true, true, true, true, true, true, true, true, true, true, true, true, true, true, true, true, false, false, false, false, false, false, false, false] rfl rfl (by kernel_rfl) (fun _ _ _ h => h) (Or.inl ⟨by rfl, ?_⟩) ?_ ?_
          rotate_left
          · intro w'
            go_simp
            with_reducible rfl
          rotate_left
          · simp only [Act.put, List.setIfInBounds_toArray, List.set_cons_zero, List.set_cons_succ, i64_w, i32_w]
            rfl
          refine pure_ (i := 39) (N := some 154) (v := ?_) (a' := ?_) #[true, true, true, true, true, true, true, true, true, true, true, true, true, true, true, true, true, true, true, true, true, true, true, true, true, true, true, true, true, true, true, true, true, true, true, true, true, true, true, true, false, false, false, false, false, false, false] rfl rfl (by kernel_rfl) (fun _ _ _ h => h) (Or.inl ⟨by rfl, ?_⟩) ?_ ?_
          rotate_left
          · intro w'
            go_simp
            with_reducible rfl
          rotate_left
          · simp only [Act.put, List.setIfInBounds_toArray, List.set_cons_zero, List.set_cons_succ, i64_w, i32_w]
            rfl
          refine take_ (i := 40) (N := some 155) (v := ?_) (a' := ?_) #[true, true, true, true, true, true, true, true, true, true, true, true, true, true, true, true, true, true, true, true, true, true, true, true, true, true, true, true, true, true, true, true, true, true, true, true, true, true, true, true, true, false, false, false, false, false, false] rfl rfl (by kernel_rfl) (fun _ _ _ h => h) (Or.inl ⟨by rfl, ?_⟩) hHeld ?_ ?_
          rotate_left
          · rintro w' s0
            have f0 := (s0.cell (World.block_lt_of_cell? _ _ hx0)).trans hx0
            go_simp
            with_reducible rfl
          rotate_left
          · simp only [Act.put, List.setIfInBounds_toArray, List.set_cons_zero, List.set_cons_succ, i64_w, i32_w]
            rfl
          refine one_ (i := 41) (N := some 156) #[true, true, true, true, true, true, true, true, true, true, true, true, true, true, true, true, true, true, true, true, true, true, true, true, true, true, true, true, true, true, true, true, true, true, true, true, true, true, true, true, true, true, false, false, false, false, false] rfl rfl (by kernel_rfl) (by decide) (fun K hK => ?_)
          refine Kd.R_lit_step (Kd.int .i64) (w0 := wo) wo.heap.size 3 (by rfl) (N := 156) rfl (xs := ([id, id, id, id, id, id, id, id, id, id, 0] : List Int)) (inner := [.int .i64 id, .int .i64 id, .int .i64 id, .int .i64 id, .int .i64 id, .int .i64 id, .int .i64 id, .int .i64 id, .int .i64 id, .int .i64 id, .int .i64 0]) (ok := fun _ => True) (okp := fun _ => True) (by first | (go_simp; done) | (go_simp; rfl)) ((((((((((((Reps.none _ _).snoc (p := (id : Int)) (c := [Value.int .i64 id]) rfl rfl).snoc (p := (id : Int)) (c := [Value.int .i64 id]) rfl rfl).snoc (p := (id : Int)) (c := [Value.int .i64 id]) rfl rfl).snoc (p := (id : Int)) (c := [Value.int .i64 id]) rfl rfl).snoc (p := (id : Int)) (c := [Value.int .i64 id]) rfl rfl).snoc (p := (id : Int)) (c := [Value.int .i64 id]) rfl rfl).snoc (p := (id : Int)) (c := [Value.int .i64 id]) rfl rfl).snoc (p := (id : Int)) (c := [Value.int .i64 id]) rfl rfl).snoc (p := (id : Int)) (c := [Value.int .i64 id]) rfl rfl).snoc (p := (id : Int)) (c := [Value.int .i64 id]) rfl rfl).snoc (p := (0 : Int)) (c := [Value.int .i64 0]) rfl rfl) (fun _ h => h) trivial hHeld hHeld.size (by simp) ?_
          intro v156 W1 ho156 hb hg156 hat156
          refine hK.out _ _ hb (fun hHeld2 => ?_)
          clear hK K hb
          refine norm_ (a' := ?_) ?_ ?_
          rotate_left
          · show Act.put _ (some 156) _ = _
            simp only [Act.put, List.setIfInBounds_toArray, List.set_cons_zero, List.set_cons_succ]
            rfl
          obtain ⟨A156, c156, e156, hc156, hC156⟩ := row_get ho156
          subst e156
          refine one_ (i := 42) (N := some 157) #[true, true, true, true, true, true, true, true, true, true, true, true, true, true, true, true, true, true, true, true, true, true, true, true, true, true, true, true, true, true, true, true, true, true, true, true, true, true, true, true, true, true, true, false, false, false, false] rfl rfl (by kernel_rfl) (by decide) (fun K hK => ?_)
          refine goes_ Try.func23 (by kernel_rfl) rfl #[.agg #[.slice P0 (machL l1).length k0, .slice P1 seats.length k1, .slice P2 F.length k2, .slice P3 S.length k3], .slice A156 [id, id, id, id, id, id, id, id, id, id, 0].length c156] (by rfl) rfl rfl (by (try simp only [List.map_toArray, List.map_cons, List.map_nil]); first | done | rfl) ?_
          refine (sequence_Sort.calls P0 k0 (machL l1) P1 k1 seats P2 k2 F P3 k3 S A156 c156 [id, id, id, id, id, id, id, id, id, id, 0] [] [] [] 4 W1 (Kd.C_below HP0.out hHeld2) hk0 (Kd.C_below HP1.out hHeld2) hk1 (Kd.C_below HP2.out hHeld2) hk2 (Kd.C_below HP3.out hHeld2) hk3 hC156 hc156 HS4x.out).mono ?_
          rintro e W9 ⟨v0, v1, v2, rfl, ho0, ho1, ho2, hb⟩
          refine ⟨_, rfl, ?_⟩
          refine hK.out _ _ (below_then hHeld2 hHeld2.size hb) (fun hHeld9 => ?_)
          clear hK K hb ho0 ho1 ho2
          refine pure_ (i := 43) (N := some 114) (v := ?_) (a' := ?_) #[true, true, true, true, true, true, true, true, true, true, true, true, true, true, true, true, true, true, true, true, true, true, true, true, true, true, true, true, true, true, true, true, true, true, true, true, true, true, true, true, true, true, true, true, false, false, false] rfl rfl (by kernel_rfl) (fun _ _ _ h => h) (Or.inl ⟨by rfl, ?_⟩) ?_ ?_
          rotate_left
          · intro w'
            go_simp
            with_reducible rfl
          rotate_left
          · simp only [Act.put, List.setIfInBounds_toArray, List.set_cons_zero, List.set_cons_succ, i64_w, i32_w]
            rfl
          refine pure_ (i := 44) (N := some 158) (v := ?_) (a' := ?_) #[true, true, true, true, true, true, true, true, true, true, true, true, true, true, true, true, true, true, true, true, true, true, true, true, true, true, true, true, true, true, true, true, true, true, true, true, true, true, true, true, true, true, true, true, true, false, false] rfl rfl (by kernel_rfl) (fun _ _ _ h => h) (Or.inl ⟨by rfl, ?_⟩) ?_ ?_
          rotate_left
          · intro w'
            go_simp
            with_reducible rfl
          rotate_left
          · simp only [Act.put, List.setIfInBounds_toArray, List.set_cons_zero, List.set_cons_succ, i64_w, i32_w]
            rfl
          refine pure_ (i := 45) (N := some 159) (v := ?_) (a' := ?_) #[true, true, true, true, true, true, true, true, true, true, true, true, true, true, true, true, true, true, true, true, true, true, true, true, true, true, true, true, true, true, true, true, true, true, true, true, true, true, true, true, true, true, true, true, true, true, false] rfl rfl (by kernel_rfl) (fun _ _ _ h => h) (Or.inl ⟨by rfl, ?_⟩) ?_ ?_
          rotate_left
          · intro w'
            go_simp
            with_reducible rfl
          rotate_left
          · simp only [Act.put, List.setIfInBounds_toArray, List.set_cons_zero, List.set_cons_succ, i64_w, i32_w]
            rfl
          refine pure_ (i := 46) (N := some 11) (v := ?_) (a' := ?_) #[true, true, true, true, true, true, true, true, true, true, true, true, true, true, true, true, true, true, true, true, true, true, true, true, true, true, true, true, true, true, true, true, true, true, true, true, true, true, true, true, true, true, true, true, true, true, true] rfl rfl (by kernel_rfl) (fun _ _ _ h => h) (Or.inl ⟨by rfl, ?_⟩) ?_ ?_
          rotate_left
          · intro w'
            go_simp
            with_reducible rfl
          rotate_left
          · simp only [Act.put, List.setIfInBounds_toArray, List.set_cons_zero, List.set_cons_succ, i64_w, i32_w]
            rfl
          refine done_ (by kernel_rfl) ?_
          go_wp2
          go_meet
          case rel => exact ⟨hHeld9⟩
        · have HZN := Aside0.mk hz
          clear hz
          go_wp2
          · exact absurd (by assumption) HZN.out
          · go_meet
            case rel => exact ⟨Below.refl _ _⟩
      case rest =>
        have hbc := hcut.out
        have hb9c := below_then HB9c.out HB9c.out.size hbc
        clear HP0 HP1 HP2 HP3 pc0 pc1 pc2 pc3 hcut HL7
        replace HPB := Aside0.mk (blk_below HPB.out hbc)
        replace HBc := Aside0.mk (below_then HBc.out HBc.out.size hbc)
        replace HB9c := Aside0.mk hb9c
        have HP0 := Aside0.mk (Kd.C_below HQ0.out hb9c)
        have HP1 := Aside0.mk (Kd.C_below HQ1.out hb9c)
        have HP2 := Aside0.mk (Kd.C_below HQ2.out hb9c)
        have HP3 := Aside0.mk (Kd.C_below HQ3.out hb9c)
        have pc0 : wc.cell? ⟨gp, 0, none⟩ = some (.slice P0 (machL l1).length k0) := (blk_cell HPB.out 0).trans rfl
        have pc1 : wc.cell? ⟨gp, 1, none⟩ = some (.slice P1 seats.length k1) := (blk_cell HPB.out 1).trans rfl
        have pc2 : wc.cell? ⟨gp, 2, none⟩ = some (.slice P2 F.length k2) := (blk_cell HPB.out 2).trans rfl
        have pc3 : wc.cell? ⟨gp, 3, none⟩ = some (.slice P3 S.length k3) := (blk_cell HPB.out 3).trans rfl
        clear hb9c hbc
        go_wp2
        refine start_ (n := 7) (S := fun w' => Below wc.heap.size wc w') (ds := []) #[false, false, false, false, false, false, false] (by kernel_rfl) rfl rfl (below_drew1 (Below.refl _ _)) (fun hHeld => ?_)
        generalize wc.drew = wd at hHeld ⊢
        refine take_ (i := 0) (N := some 163) (v := ?_) (a' := ?_) #[true, false, false, false, false, false, false] rfl rfl (by kernel_rfl) (fun _ _ _ h => h) (Or.inl ⟨by rfl, ?_⟩) hHeld ?_ ?_
        rotate_left
        · rintro w' s0
          have f0 := (s0.cell (World.block_lt_of_cell? _ _ pc0)).trans pc0
          have f1 := (s0.cell (World.block_lt_of_cell? _ _ pc1)).trans pc1
          have f2 := (s0.cell (World.block_lt_of_cell? _ _ pc2)).trans pc2
          have f3 := (s0.cell (World.block_lt_of_cell? _ _ pc3)).trans pc3
          go_simp
          with_reducible rfl
        rotate_left
        · simp only [Act.put, List.setIfInBounds_toArray, List.set_cons_zero, List.set_cons_succ, i64_w, i32_w]
          rfl
        refine one_ (i := 1) (N := some 164) #[true, true, false, false, false, false, false] rfl rfl (by kernel_rfl) (by decide) (fun K hK => ?_)
        refine Kd.R_make_step (Kd.int .i64) (w0 := wc) wc.heap.size 3 (by rfl) (N := 164) rfl 24 _ _ rfl (2001 : Int) rfl rfl Try.underlying24 (.int .i64 0) 8 info3 rfl (by decide) (by omega) 0 (ok := fun _ => True) (okp := fun _ => True) rfl (fun _ hk => hk) trivial (by decide) (by decide) hHeld hHeld.size ?_
        intro vm W1 hom hb hg hat
        obtain ⟨A1m, c1m, e1m, hc1m, hC1m⟩ := row_get hom
        subst e1m
        rw [HBIG.out] at hC1m hc1m ⊢
        refine hK.out _ _ hb (fun hHeld2 => ?_)
        clear hK K hb hom hg hat
        refine norm_ (a' := ?_) ?_ ?_
        rotate_left
        · show Act.put _ (some 164) _ = _
          simp only [Act.put, List.setIfInBounds_toArray, List.set_cons_zero, List.set_cons_succ]
          rfl
        refine one_ (i := 2) (N := some 165) #[true, true, true, false, false, false, false] rfl rfl (by kernel_rfl) (by decide) (fun K hK => ?_)
        refine goes_ Try.func23 (by kernel_rfl) rfl #[.agg #[.slice P0 (machL l1).length k0, .slice P1 seats.length k1, .slice P2 F.length k2, .slice P3 S.length k3], .slice A1m big.length c1m] (by rfl) rfl rfl (by (try simp only [List.map_toArray, List.map_cons, List.map_nil]); first | done | rfl) ?_
        refine (sequence_Sort.calls P0 k0 (machL l1) P1 k1 seats P2 k2 F P3 k3 S A1m c1m big [] [] [] 5 W1 (Kd.C_below HP0.out hHeld2) hk0 (Kd.C_below HP1.out hHeld2) hk1 (Kd.C_below HP2.out hHeld2) hk2 (Kd.C_below HP3.out hHeld2) hk3 hC1m hc1m HS5.out).mono ?_
        rintro e W9 ⟨v0, v1, v2, rfl, ho0, ho1, ho2, hb⟩
        refine ⟨_, rfl, ?_⟩
        refine hK.out _ _ (below_then hHeld2 hHeld2.size hb) (fun hHeld9 => ?_)
        clear hK K hb ho0 ho1 ho2
        refine pure_ (i := 3) (N := some 162) (v := ?_) (a' := ?_) #[true, true, true, true, false, false, false] rfl rfl (by kernel_rfl) (fun _ _ _ h => h) (Or.inl ⟨by rfl, ?_⟩) ?_ ?_
        rotate_left
        · intro w'
          go_simp
          with_reducible rfl
        rotate_left
        · simp only [Act.put, List.setIfInBounds_toArray, List.set_cons_zero, List.set_cons_succ, i64_w, i32_w]
          rfl
        refine pure_ (i := 4) (N := some 166) (v := ?_) (a' := ?_) #[true, true, true, true, true, false, false] rfl rfl (by kernel_rfl) (fun _ _ _ h => h) (Or.inl ⟨by rfl, ?_⟩) ?_ ?_
        rotate_left
        · intro w'
          go_simp
          with_reducible rfl
        rotate_left
        · simp only [Act.put, List.setIfInBounds_toArray, List.set_cons_zero, List.set_cons_succ, i64_w, i32_w]
          rfl
        refine pure_ (i := 5) (N := some 167) (v := ?_) (a' := ?_) #[true, true, true, true, true, true, false] rfl rfl (by kernel_rfl) (fun _ _ _ h => h) (Or.inl ⟨by rfl, ?_⟩) ?_ ?_
        rotate_left
        · intro w'
          go_simp
          with_reducible rfl
        rotate_left
        · simp only [Act.put, List.setIfInBounds_toArray, List.set_cons_zero, List.set_cons_succ, i64_w, i32_w]
          rfl
        refine pure_ (i := 6) (N := some 11) (v := ?_) (a' := ?_) #[true, true, true, true, true, true, true] rfl rfl (by kernel_rfl) (fun _ _ _ h => h) (Or.inl ⟨by rfl, ?_⟩) ?_ ?_
        rotate_left
        · intro w'
          go_simp
          with_reducible rfl
        rotate_left
        · simp only [Act.put, List.setIfInBounds_toArray, List.set_cons_zero, List.set_cons_succ, i64_w, i32_w]
          rfl
        refine done_ (by kernel_rfl) ?_
        clear HP0 HP1 HP2 HP3 pc0 pc1 pc2 pc3
        replace HPB := Aside0.mk (blk_below HPB.out hHeld9)
        replace HBc := Aside0.mk (below_then HBc.out HBc.out.size hHeld9)
        have hb9 := below_then HB9c.out HB9c.out.size hHeld9
        have pc2 : W9.cell? ⟨gp, 2, none⟩ = some (.slice P2 F.length k2) := (blk_cell HPB.out 2).trans rfl
        have pf2 := blk_frozen HPB.out 2
        go_wp2
        have hset : Below w9.heap.size w9 (W9.setCell ⟨gp, 2, none⟩ (.slice none 0 0)) := below_set hb9 (by rw [HGP.out]; exact Nat.le_refl _)
        have HPB2 := Aside0.mk (blk_put HPB.out 2 (.slice none 0 0) rfl)
        have HBs := Aside0.mk (show Below w8.heap.size w8 (W9.setCell ⟨gp, 2, none⟩ (.slice none 0 0)) from below_set HBc.out (by rw [HGP.out]; exact HB15.out.size))
        clear HPB HBc HB9c hb9 pc2 pf2 hHeld9 hHeld hHeld2
        generalize W9.setCell ⟨gp, 2, none⟩ (.slice none 0 0) = wf at hset HPB2 HBs ⊢
        have HPB := HPB2
        have HB9c := Aside0.mk hset
        have HP0 := Aside0.mk (Kd.C_below HQ0.out hset)
        have HP1 := Aside0.mk (Kd.C_below HQ1.out hset)
        have HP3 := Aside0.mk (Kd.C_below HQ3.out hset)
        have pc0 : wf.cell? ⟨gp, 0, none⟩ = some (.slice P0 (machL l1).length k0) := (blk_cell HPB.out 0).trans rfl
        have pc1 : wf.cell? ⟨gp, 1, none⟩ = some (.slice P1 seats.length k1) := (blk_cell HPB.out 1).trans rfl
        have pc2 : wf.cell? ⟨gp, 2, none⟩ = some (.slice none 0 0) := (blk_cell HPB.out 2).trans rfl
        have pc3 : wf.cell? ⟨gp, 3, none⟩ = some (.slice P3 S.length k3) := (blk_cell HPB.out 3).trans rfl
        clear hset HPB2
        refine start_ (n := 7) (S := fun w' => Below wf.heap.size wf w') (ds := []) #[false, false, false, false, false, false, false] (by kernel_rfl) rfl rfl (below_drew1 (Below.refl _ _)) (fun hHeld => ?_)
        generalize wf.drew = wd at hHeld ⊢
        refine take_ (i := 0) (N := some 170) (v := ?_) (a' := ?_) #[true, false, false, false, false, false, false] rfl rfl (by kernel_rfl) (fun _ _ _ h => h) (Or.inl ⟨by rfl, ?_⟩) hHeld ?_ ?_
        rotate_left
        · rintro w' s0
          have f0 := (s0.cell (World.block_lt_of_cell? _ _ pc0)).trans pc0
          have f1 := (s0.cell (World.block_lt_of_cell? _ _ pc1)).trans pc1
          have f2 := (s0.cell (World.block_lt_of_cell? _ _ pc2)).trans pc2
          have f3 := (s0.cell (World.block_lt_of_cell? _ _ pc3)).trans pc3
          go_simp
          with_reducible rfl
        rotate_left
        · simp only [Act.put, List.setIfInBounds_toArray, List.set_cons_zero, List.set_cons_succ, i64_w, i32_w]
          rfl
        refine one_ (i := 1) (N := some 171) #[true, true, false, false, false, false, false] rfl rfl (by kernel_rfl) (by decide) (fun K hK => ?_)
        refine Kd.R_make_step (Kd.int .i64) (w0 := wf) wf.heap.size 3 (by rfl) (N := 171) rfl 24 _ _ rfl (2001 : Int) rfl rfl Try.underlying24 (.int .i64 0) 8 info3 rfl (by decide) (by omega) 0 (ok := fun _ => True) (okp := fun _ => True) rfl (fun _ hk => hk) trivial (by decide) (by decide) hHeld hHeld.size ?_
        intro vm W1 hom hb hg hat
        obtain ⟨A1m, c1m, e1m, hc1m, hC1m⟩ := row_get hom
        subst e1m
        rw [HBIG.out] at hC1m hc1m ⊢
        refine hK.out _ _ hb (fun hHeld2 => ?_)
        clear hK K hb hom hg hat
        refine norm_ (a' := ?_) ?_ ?_
        rotate_left
        · show Act.put _ (some 171) _ = _
          simp only [Act.put, List.setIfInBounds_toArray, List.set_cons_zero, List.set_cons_succ]
          rfl
        refine one_ (i := 2) (N := some 172) #[true, true, true, false, false, false, false] rfl rfl (by kernel_rfl) (by decide) (fun K hK => ?_)
        refine goes_ Try.func23 (by kernel_rfl) rfl #[.agg #[.slice P0 (machL l1).length k0, .slice P1 seats.length k1, .slice none ([] : List Int).length 0, .slice P3 S.length k3], .slice A1m big.length c1m] (by rfl) rfl rfl (by (try simp only [List.map_toArray, List.map_cons, List.map_nil]); first | done | rfl) ?_
        refine (sequence_Sort.calls P0 k0 (machL l1) P1 k1 seats none 0 [] P3 k3 S A1m c1m big [] [] [] 283 W1 (Kd.C_below HP0.out hHeld2) hk0 (Kd.C_below HP1.out hHeld2) hk1 (C_nil _ _) (Nat.le_refl _) (Kd.C_below HP3.out hHeld2) hk3 hC1m hc1m HS3.out).mono ?_
        rintro e W9 ⟨v0, v1, v2, rfl, ho0, ho1, ho2, hb⟩
        refine ⟨_, rfl, ?_⟩
        refine hK.out _ _ (below_then hHeld2 hHeld2.size hb) (fun hHeld9 => ?_)
        clear hK K hb ho0 ho1 ho2
        refine pure_ (i := 3) (N := some 169) (v := ?_) (a' := ?_) #[true, true, true, true, false, false, false] rfl rfl (by kernel_rfl) (fun _ _ _ h => h) (Or.inl ⟨by rfl, ?_⟩) ?_ ?_
        rotate_left
        · intro w'
          go_simp
          with_reducible rfl
        rotate_left
        · simp only [Act.put, List.setIfInBounds_toArray, List.set_cons_zero, List.set_cons_succ, i64_w, i32_w]
          rfl
        refine pure_ (i := 4) (N := some 173) (v := ?_) (a' := ?_) #[true, true, true, true, true, false, false] rfl rfl (by kernel_rfl) (fun _ _ _ h => h) (Or.inl ⟨by rfl, ?_⟩) ?_ ?_
        rotate_left
        · intro w'
          go_simp
          with_reducible rfl
        rotate_left
        · simp only [Act.put, List.setIfInBounds_toArray, List.set_cons_zero, List.set_cons_succ, i64_w, i32_w]
          rfl
        refine pure_ (i := 5) (N := some 174) (v := ?_) (a' := ?_) #[true, true, true, true, true, true, false] rfl rfl (by kernel_rfl) (fun _ _ _ h => h) (Or.inl ⟨by rfl, ?_⟩) ?_ ?_
        rotate_left
        · intro w'
          go_simp
          with_reducible rfl
        rotate_left
        · simp only [Act.put, List.setIfInBounds_toArray, List.set_cons_zero, List.set_cons_succ, i64_w, i32_w]
          rfl
        refine pure_ (i := 6) (N := some 13) (v := ?_) (a' := ?_) #[true, true, true, true, true, true, true] rfl rfl (by kernel_rfl) (fun _ _ _ h => h) (Or.inl ⟨by rfl, ?_⟩) ?_ ?_
        rotate_left
        · intro w'
          go_simp
          with_reducible rfl
        rotate_left
        · simp only [Act.put, List.setIfInBounds_toArray, List.set_cons_zero, List.set_cons_succ, i64_w, i32_w]
          rfl
        refine done_ (by kernel_rfl) ?_
        have HBz := Aside0.mk (below_then HBs.out HBs.out.size hHeld9)
        clear HP0 HP1 HP3 pc0 pc1 pc2 pc3 hHeld9 hHeld hHeld2
        go_wp2_with (first
      | ((with_reducible refine gate_dst (N := 182) rfl ?_); go_must ((try (refine gate_guard (by rfl) ?_; dsimp only)); refine goesL_ (some 182) rfl rfl Try.func18 (by kernel_rfl) rfl #[] rfl (by (try simp only [List.map_toArray, List.map_cons, List.map_nil]); first | done | rfl) ?_; refine (letterbaglaw28_awake.calls true _ rfl).mono ?_)
         rintro e W16 ⟨rfl, hb⟩
         refine ⟨_, rfl, ?_⟩
         have HB16 := Aside0.mk (below_then HBz.out HBz.out.size hb)
         clear hb)
          | fail)
        go_ret
        exact ⟨rfl, below_then HB8.out HB8.out.size HB16.out⟩
end Go.Proofs.Ytbhcchcjmgfpiaa.Print
