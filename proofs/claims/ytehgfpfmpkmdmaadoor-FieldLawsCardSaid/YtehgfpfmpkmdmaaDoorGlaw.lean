/- FieldLaws: the law answers true for every input (its walk, by hand, and its plain law: the elements are a field). -/
import Derived.Test.YtehgfpfmpkmdmaaDoorGpow
namespace Go.Proofs.YtehgfpfmpkmdmaaDoor.Print
open Go.RowKit Go.Proofs.YtehgfpfmpkmdmaaDoorW.PrintWords Go.Proofs.YtehgfpfmpkmdmaaDoorW.PrintLast Go.Proofs.YtehgfpfmpkmdmaaDoorW.PrintMore
open Go.Proofs.YtehgfpfmpkmdmaaDoor.Gf
set_option linter.unusedVariables false
set_option linter.unusedSimpArgs false
theorem mod64_el (x : Int) (h : 0 ≤ x) : ∃ a : F, ofF a = x % 64 := ⟨toF (x % 64), ofF_toF (by rw [elB_iff]; omega)⟩
theorem lg_mulF {a b : F} (ha : a ≠ 0) (hb : b ≠ 0) : (((lg a.v : Nat) : Int) + ((lg b.v : Nat) : Int)) % 63 = ((lg (a * b).v : Nat) : Int) := by
  rw [mul_v, ml_pos (ne_v ha) (ne_v hb), lg_ex]
  omega
theorem epw_two {a b : F} (ha : a ≠ 0) (hb : b ≠ 0) : epw (el 2) (((lg a.v : Nat) : Int) + ((lg b.v : Nat) : Int)) = a * b := F.ext (by
  simp only [epw, mul_v]
  rw [show lg (el 2).v = 1 by decide, Nat.one_mul, ml_pos (ne_v ha) (ne_v hb)]
  refine ex_congr ?_
  omega)

set_option maxHeartbeats 8000000 in
set_option maxRecDepth 100000 in
theorem laws_calls (x y z : Int) (w : World) (w0 : (Lit.int .u8 x).wf = true) (w1 : (Lit.int .u8 y).wf = true) (w2 : (Lit.int .u8 z).wf = true) (hT : Kd.C (Kd.int .u8) w (some ⟨0, 0, none⟩) 63 pwI) :
    Calls Tryd.prog 8 #[.int .u8 x, .int .u8 y, .int .u8 z] w fun e w' => e = .returned (.bool true) ∧ Below w.heap.size w w' := by
  have b0 : 0 ≤ x ∧ x ≤ 255 := by
    simp [Lit.wf, IntKind.min, IntKind.max, IntKind.signed, IntKind.bits] at w0
    omega
  have b1 : 0 ≤ y ∧ y ≤ 255 := by
    simp [Lit.wf, IntKind.min, IntKind.max, IntKind.signed, IntKind.bits] at w1
    omega
  have b2 : 0 ≤ z ∧ z ≤ 255 := by
    simp [Lit.wf, IntKind.min, IntKind.max, IntKind.signed, IntKind.bits] at w2
    omega
  obtain ⟨b0l, b0h⟩ := b0
  obtain ⟨b1l, b1h⟩ := b1
  obtain ⟨b2l, b2h⟩ := b2
  clear w0 w1 w2
  obtain ⟨a, ha⟩ := mod64_el x b0l
  obtain ⟨b, hb⟩ := mod64_el y b1l
  obtain ⟨c, hc⟩ := mod64_el z b2l
  obtain ⟨ia, hia⟩ : ∃ i, i = ofF a := ⟨_, rfl⟩
  obtain ⟨ib, hib⟩ : ∃ i, i = ofF b := ⟨_, rfl⟩
  obtain ⟨ic, hic⟩ : ∃ i, i = ofF c := ⟨_, rfl⟩
  have hxa : x % 64 = ia := ha.symm.trans hia.symm
  have hxb : y % 64 = ib := hb.symm.trans hib.symm
  have hxc : z % 64 = ic := hc.symm.trans hic.symm
  have m1 := Mul_f a b
  have m2 := Mul_f b c
  have m3 := Add_f b c
  have m4 := Mul_f a c
  have m5 := Add_f a a
  have m6 := Mul_f b a
  have m7 := Mul_f (a * b) c
  have m8 := Mul_f a (b * c)
  have m9 := Mul_f a (b + c)
  have m10 := Mul_f a 1
  have m11 := Mul_f a 0
  have hxor := bx_ofF (a * b) (a * c)
  rw [← mul_add] at hxor
  rw [add_self, ofF_zero] at m5
  rw [mul_comm b a] at m6
  rw [mul_assoc] at m7
  rw [mul_one, ofF_one] at m10
  rw [mul_zero, ofF_zero] at m11
  obtain ⟨hab0, hab1⟩ := ofF_lt (a * b)
  obtain ⟨hia0, hia1⟩ := ofF_lt a
  obtain ⟨hib0, hib1⟩ := ofF_lt b
  obtain ⟨hic0, hic1⟩ := ofF_lt c
  have HIA := Aside0.mk hia
  have HIB := Aside0.mk hib
  rw [← hia] at m1 m4 m5 m6 m8 m9 m10 m11 hia0 hia1
  rw [← hib] at m1 m2 m3 m6 hib0 hib1
  rw [← hic] at m2 m3 m4 m7 hic0 hic1
  have hT' := Aside0.mk hT
  have HT := hT'
  clear ha hb hc hia hib hic hT hT'
  have HB0 := Aside0.mk (below_alloc (Below.refl _ w) (.cells #[.bool true] 4))
  have HC0 := Aside0.mk (blk_new w (.cells #[.bool true] 4))
  by_cases h0 : a = 0
  · obtain ⟨ab, hab⟩ : ∃ i, i = ofF (a * b) := ⟨_, rfl⟩
    have z1 : ia = 0 := HIA.out.trans (ofF_eq_zero.2 h0)
    rw [← hab] at m1 m6 m7 hxor hab0 hab1
    generalize ofF (b * c) = bc at m2 m8
    generalize ofF (b + c) = s at m3 m9
    generalize ofF (a * c) = ac at m4 hxor
    generalize ofF (a * (b * c)) = abc at m7 m8
    generalize ofF (a * (b + c)) = sa at m9 hxor
    have e1 : (ia == 0) = true := by simp [z1]
    have e2 : (ia != 0) = false := by simp [z1]
    clear z1 h0
    have HAB := Aside0.mk m1
    have HBC := Aside0.mk m2
    have HS := Aside0.mk m3
    have HAC := Aside0.mk m4
    have HAA := Aside0.mk m5
    have HBA := Aside0.mk m6
    have HABC := Aside0.mk m7
    have HABC2 := Aside0.mk m8
    have HSA := Aside0.mk m9
    have HA1 := Aside0.mk m10
    have HA0 := Aside0.mk m11
    clear m1 m2 m3 m4 m5 m6 m7 m8 m9 m10 m11 hab
    go_enter Tryd.func8, Tryd.ntmps8
    go_upto_region 2 with (fail)
    rw [hxa, hxb, hxc]
    clear hxa hxb hxc
    go_wp2_with (first
      | ((with_reducible refine gate_dst (N := 36) rfl ?_); go_must (refine goesL_ (some 36) rfl rfl Tryd.func29 (by kernel_rfl) rfl #[.int .u8 ia, .int .u8 ib, .pointer (some ⟨w.heap.size, 0, none⟩)] rfl (by (try simp only [List.map_toArray, List.map_cons, List.map_nil]); first | done | rfl) ?_; refine (times29 ia ib ab w.heap.size w (w.alloc (.cells #[.bool true] 4)) HT.out HB0.out (Nat.le_refl _) HC0.out HAB.out).mono ?_)
         rintro e w1 ⟨rfl, hc, hb⟩
         have HB1 := Aside0.mk hb
         have HC1 := Aside0.mk hc
         have c1 : w1.cell? ⟨w.heap.size, 0, none⟩ = some (.bool true) := (blk_cell hc 0).trans rfl
         refine ⟨_, rfl, ?_⟩
         clear hb hc)
      | ((with_reducible refine gate_dst (N := 39) rfl ?_); go_must (refine goesL_ (some 39) rfl rfl Tryd.func29 (by kernel_rfl) rfl #[.int .u8 ib, .int .u8 ic, .pointer (some ⟨w.heap.size, 0, none⟩)] rfl (by (try simp only [List.map_toArray, List.map_cons, List.map_nil]); first | done | rfl) ?_; refine (times29 ib ic bc w.heap.size w w1 HT.out HB1.out (Nat.le_refl _) HC1.out HBC.out).mono ?_)
         rintro e w2 ⟨rfl, hc, hb⟩
         have HB2 := Aside0.mk hb
         have HC2 := Aside0.mk hc
         have c2 : w2.cell? ⟨w.heap.size, 0, none⟩ = some (.bool true) := (blk_cell hc 0).trans rfl
         refine ⟨_, rfl, ?_⟩
         clear hb hc)
      | ((with_reducible refine gate_dst (N := 43) rfl ?_); go_must (refine goesL_ (some 43) rfl rfl Tryd.func30 (by kernel_rfl) rfl #[.int .u8 ib, .int .u8 ic] rfl (by (try simp only [List.map_toArray, List.map_cons, List.map_nil]); first | done | rfl) ?_; refine (field_Add.calls ib ic s 0 w2 HS.out).mono ?_)
         rintro e w3 ⟨rfl, hd⟩
         have HB3 := Aside0.mk (below_then HB2.out HB2.out.size hd)
         have HC3 := Aside0.mk (blk_below HC2.out hd)
         have c3 : w3.cell? ⟨w.heap.size, 0, none⟩ = some (.bool true) := (blk_cell HC3.out 0).trans rfl
         refine ⟨_, rfl, ?_⟩
         clear hd)
      | ((with_reducible refine gate_dst (N := 48) rfl ?_); go_must (refine goesL_ (some 48) rfl rfl Tryd.func29 (by kernel_rfl) rfl #[.int .u8 ia, .int .u8 ic, .pointer (some ⟨w.heap.size, 0, none⟩)] rfl (by (try simp only [List.map_toArray, List.map_cons, List.map_nil]); first | done | rfl) ?_; refine (times29 ia ic ac w.heap.size w w3 HT.out HB3.out (Nat.le_refl _) HC3.out HAC.out).mono ?_)
         rintro e w4 ⟨rfl, hc, hb⟩
         have HB4 := Aside0.mk hb
         have HC4 := Aside0.mk hc
         have c4 : w4.cell? ⟨w.heap.size, 0, none⟩ = some (.bool true) := (blk_cell hc 0).trans rfl
         refine ⟨_, rfl, ?_⟩
         clear hb hc)
      | ((with_reducible refine gate_dst (N := 52) rfl ?_); go_must (refine goesL_ (some 52) rfl rfl Tryd.func30 (by kernel_rfl) rfl #[.int .u8 ia, .int .u8 ia] rfl (by (try simp only [List.map_toArray, List.map_cons, List.map_nil]); first | done | rfl) ?_; refine (field_Add.calls ia ia 0 0 w4 HAA.out).mono ?_)
         rintro e w5 ⟨rfl, hd⟩
         have HB5 := Aside0.mk (below_then HB4.out HB4.out.size hd)
         have HC5 := Aside0.mk (blk_below HC4.out hd)
         have c5 : w5.cell? ⟨w.heap.size, 0, none⟩ = some (.bool true) := (blk_cell HC5.out 0).trans rfl
         refine ⟨_, rfl, ?_⟩
         clear hd)
      | ((with_reducible refine gate_dst (N := 69) rfl ?_); go_must ((try (refine gate_guard (by rfl) ?_; dsimp only)); refine goesL_ (some 69) rfl rfl Tryd.func29 (by kernel_rfl) rfl #[.int .u8 ib, .int .u8 ia, .pointer (some ⟨w.heap.size, 0, none⟩)] rfl (by (try simp only [List.map_toArray, List.map_cons, List.map_nil]); first | done | rfl) ?_; refine (times29 ib ia ab w.heap.size w w5 HT.out HB5.out (Nat.le_refl _) HC5.out HBA.out).mono ?_)
         rintro e w6 ⟨rfl, hc, hb⟩
         have HB6 := Aside0.mk hb
         have HC6 := Aside0.mk hc
         have c6 : w6.cell? ⟨w.heap.size, 0, none⟩ = some (.bool true) := (blk_cell hc 0).trans rfl
         refine ⟨_, rfl, ?_⟩
         clear hb hc)
      | ((with_reducible refine gate_dst (N := 75) rfl ?_); go_must ((try (refine gate_guard (by rfl) ?_; dsimp only)); refine goesL_ (some 75) rfl rfl Tryd.func29 (by kernel_rfl) rfl #[.int .u8 ab, .int .u8 ic, .pointer (some ⟨w.heap.size, 0, none⟩)] rfl (by (try simp only [List.map_toArray, List.map_cons, List.map_nil]); first | done | rfl) ?_; refine (times29 ab ic abc w.heap.size w w6 HT.out HB6.out (Nat.le_refl _) HC6.out HABC.out).mono ?_)
         rintro e w7 ⟨rfl, hc, hb⟩
         have HB7 := Aside0.mk hb
         have HC7 := Aside0.mk hc
         have c7 : w7.cell? ⟨w.heap.size, 0, none⟩ = some (.bool true) := (blk_cell hc 0).trans rfl
         refine ⟨_, rfl, ?_⟩
         clear hb hc)
      | ((with_reducible refine gate_dst (N := 78) rfl ?_); go_must ((try (refine gate_guard (by rfl) ?_; dsimp only)); refine goesL_ (some 78) rfl rfl Tryd.func29 (by kernel_rfl) rfl #[.int .u8 ia, .int .u8 bc, .pointer (some ⟨w.heap.size, 0, none⟩)] rfl (by (try simp only [List.map_toArray, List.map_cons, List.map_nil]); first | done | rfl) ?_; refine (times29 ia bc abc w.heap.size w w7 HT.out HB7.out (Nat.le_refl _) HC7.out HABC2.out).mono ?_)
         rintro e w8 ⟨rfl, hc, hb⟩
         have HB8 := Aside0.mk hb
         have HC8 := Aside0.mk hc
         have c8 : w8.cell? ⟨w.heap.size, 0, none⟩ = some (.bool true) := (blk_cell hc 0).trans rfl
         refine ⟨_, rfl, ?_⟩
         clear hb hc)
      | ((with_reducible refine gate_dst (N := 84) rfl ?_); go_must ((try (refine gate_guard (by rfl) ?_; dsimp only)); refine goesL_ (some 84) rfl rfl Tryd.func29 (by kernel_rfl) rfl #[.int .u8 ia, .int .u8 s, .pointer (some ⟨w.heap.size, 0, none⟩)] rfl (by (try simp only [List.map_toArray, List.map_cons, List.map_nil]); first | done | rfl) ?_; refine (times29 ia s sa w.heap.size w w8 HT.out HB8.out (Nat.le_refl _) HC8.out HSA.out).mono ?_)
         rintro e w9 ⟨rfl, hc, hb⟩
         have HB9 := Aside0.mk hb
         have HC9 := Aside0.mk hc
         have c9 : w9.cell? ⟨w.heap.size, 0, none⟩ = some (.bool true) := (blk_cell hc 0).trans rfl
         refine ⟨_, rfl, ?_⟩
         clear hb hc)
      | ((with_reducible refine gate_dst (N := 92) rfl ?_); go_must ((try (refine gate_guard (by rfl) ?_; dsimp only)); refine goesL_ (some 92) rfl rfl Tryd.func29 (by kernel_rfl) rfl #[.int .u8 ia, .int .u8 1, .pointer (some ⟨w.heap.size, 0, none⟩)] rfl (by (try simp only [List.map_toArray, List.map_cons, List.map_nil]); first | done | rfl) ?_; refine (times29 ia 1 ia w.heap.size w w9 HT.out HB9.out (Nat.le_refl _) HC9.out HA1.out).mono ?_)
         rintro e w10 ⟨rfl, hc, hb⟩
         have HB10 := Aside0.mk hb
         have HC10 := Aside0.mk hc
         have c10 : w10.cell? ⟨w.heap.size, 0, none⟩ = some (.bool true) := (blk_cell hc 0).trans rfl
         refine ⟨_, rfl, ?_⟩
         clear hb hc)
      | ((with_reducible refine gate_dst (N := 98) rfl ?_); go_must ((try (refine gate_guard (by rfl) ?_; dsimp only)); refine goesL_ (some 98) rfl rfl Tryd.func29 (by kernel_rfl) rfl #[.int .u8 ia, .int .u8 0, .pointer (some ⟨w.heap.size, 0, none⟩)] rfl (by (try simp only [List.map_toArray, List.map_cons, List.map_nil]); first | done | rfl) ?_; refine (times29 ia 0 0 w.heap.size w w10 HT.out HB10.out (Nat.le_refl _) HC10.out HA0.out).mono ?_)
         rintro e w11 ⟨rfl, hc, hb⟩
         have HB11 := Aside0.mk hb
         have HC11 := Aside0.mk hc
         have c11 : w11.cell? ⟨w.heap.size, 0, none⟩ = some (.bool true) := (blk_cell hc 0).trans rfl
         refine ⟨_, rfl, ?_⟩
         clear hb hc)
      | ((with_reducible refine gate_dst (N := 189) rfl ?_); go_must ((try (refine gate_guard (by rfl) ?_; dsimp only)); refine goesL_ (some 189) rfl rfl Tryd.func11 (by kernel_rfl) rfl #[] rfl (by (try simp only [List.map_toArray, List.map_cons, List.map_nil]); first | done | rfl) ?_; refine (letterbaglaw18_awake.calls true w11 (Kd.C_below HT.out HB11.out) rfl).mono ?_)
         rintro e we ⟨rfl, hb⟩
         have HE := Aside0.mk (below_then HB11.out HB11.out.size hb)
         refine ⟨_, rfl, ?_⟩
         clear hb)
      | fail)
    go_ret
    exact ⟨rfl, HE.out⟩
  · obtain ⟨ab, hab⟩ : ∃ i, i = ofF (a * b) := ⟨_, rfl⟩
    have e1 : (ia == 0) = false := by rw [HIA.out]; simpa using ofF_ne h0
    have e2 : (ia != 0) = true := by rw [HIA.out]; simpa using ofF_ne h0
    have mi := Inv_f h0
    have mj := Mul_f a (Gf.inv a)
    rw [mul_inv h0, ofF_one] at mj
    rw [← HIA.out] at mi mj
    generalize ofF (Gf.inv a) = iv at mi mj
    have HIV := Aside0.mk mi
    have HAI := Aside0.mk mj
    clear mi mj
    by_cases h1 : b = 0
    · have f1 : (ib == 0) = true := by rw [HIB.out, h1]; rfl
      have f2 : (ib != 0) = false := by rw [HIB.out, h1]; rfl
      rw [← hab] at m1 m6 m7 hxor hab0 hab1
      generalize ofF (b * c) = bc at m2 m8
      generalize ofF (b + c) = s at m3 m9
      generalize ofF (a * c) = ac at m4 hxor
      generalize ofF (a * (b * c)) = abc at m7 m8
      generalize ofF (a * (b + c)) = sa at m9 hxor
      clear h0 h1
      have HAB := Aside0.mk m1
      have HBC := Aside0.mk m2
      have HS := Aside0.mk m3
      have HAC := Aside0.mk m4
      have HAA := Aside0.mk m5
      have HBA := Aside0.mk m6
      have HABC := Aside0.mk m7
      have HABC2 := Aside0.mk m8
      have HSA := Aside0.mk m9
      have HA1 := Aside0.mk m10
      have HA0 := Aside0.mk m11
      clear m1 m2 m3 m4 m5 m6 m7 m8 m9 m10 m11 hab
      go_enter Tryd.func8, Tryd.ntmps8
      go_upto_region 2 with (fail)
      rw [hxa, hxb, hxc]
      clear hxa hxb hxc
      go_wp2_with (first
      | ((with_reducible refine gate_dst (N := 36) rfl ?_); go_must (refine goesL_ (some 36) rfl rfl Tryd.func29 (by kernel_rfl) rfl #[.int .u8 ia, .int .u8 ib, .pointer (some ⟨w.heap.size, 0, none⟩)] rfl (by (try simp only [List.map_toArray, List.map_cons, List.map_nil]); first | done | rfl) ?_; refine (times29 ia ib ab w.heap.size w (w.alloc (.cells #[.bool true] 4)) HT.out HB0.out (Nat.le_refl _) HC0.out HAB.out).mono ?_)
         rintro e w1 ⟨rfl, hc, hb⟩
         have HB1 := Aside0.mk hb
         have HC1 := Aside0.mk hc
         have c1 : w1.cell? ⟨w.heap.size, 0, none⟩ = some (.bool true) := (blk_cell hc 0).trans rfl
         refine ⟨_, rfl, ?_⟩
         clear hb hc)
      | ((with_reducible refine gate_dst (N := 39) rfl ?_); go_must (refine goesL_ (some 39) rfl rfl Tryd.func29 (by kernel_rfl) rfl #[.int .u8 ib, .int .u8 ic, .pointer (some ⟨w.heap.size, 0, none⟩)] rfl (by (try simp only [List.map_toArray, List.map_cons, List.map_nil]); first | done | rfl) ?_; refine (times29 ib ic bc w.heap.size w w1 HT.out HB1.out (Nat.le_refl _) HC1.out HBC.out).mono ?_)
         rintro e w2 ⟨rfl, hc, hb⟩
         have HB2 := Aside0.mk hb
         have HC2 := Aside0.mk hc
         have c2 : w2.cell? ⟨w.heap.size, 0, none⟩ = some (.bool true) := (blk_cell hc 0).trans rfl
         refine ⟨_, rfl, ?_⟩
         clear hb hc)
      | ((with_reducible refine gate_dst (N := 43) rfl ?_); go_must (refine goesL_ (some 43) rfl rfl Tryd.func30 (by kernel_rfl) rfl #[.int .u8 ib, .int .u8 ic] rfl (by (try simp only [List.map_toArray, List.map_cons, List.map_nil]); first | done | rfl) ?_; refine (field_Add.calls ib ic s 0 w2 HS.out).mono ?_)
         rintro e w3 ⟨rfl, hd⟩
         have HB3 := Aside0.mk (below_then HB2.out HB2.out.size hd)
         have HC3 := Aside0.mk (blk_below HC2.out hd)
         have c3 : w3.cell? ⟨w.heap.size, 0, none⟩ = some (.bool true) := (blk_cell HC3.out 0).trans rfl
         refine ⟨_, rfl, ?_⟩
         clear hd)
      | ((with_reducible refine gate_dst (N := 48) rfl ?_); go_must (refine goesL_ (some 48) rfl rfl Tryd.func29 (by kernel_rfl) rfl #[.int .u8 ia, .int .u8 ic, .pointer (some ⟨w.heap.size, 0, none⟩)] rfl (by (try simp only [List.map_toArray, List.map_cons, List.map_nil]); first | done | rfl) ?_; refine (times29 ia ic ac w.heap.size w w3 HT.out HB3.out (Nat.le_refl _) HC3.out HAC.out).mono ?_)
         rintro e w4 ⟨rfl, hc, hb⟩
         have HB4 := Aside0.mk hb
         have HC4 := Aside0.mk hc
         have c4 : w4.cell? ⟨w.heap.size, 0, none⟩ = some (.bool true) := (blk_cell hc 0).trans rfl
         refine ⟨_, rfl, ?_⟩
         clear hb hc)
      | ((with_reducible refine gate_dst (N := 52) rfl ?_); go_must (refine goesL_ (some 52) rfl rfl Tryd.func30 (by kernel_rfl) rfl #[.int .u8 ia, .int .u8 ia] rfl (by (try simp only [List.map_toArray, List.map_cons, List.map_nil]); first | done | rfl) ?_; refine (field_Add.calls ia ia 0 0 w4 HAA.out).mono ?_)
         rintro e w5 ⟨rfl, hd⟩
         have HB5 := Aside0.mk (below_then HB4.out HB4.out.size hd)
         have HC5 := Aside0.mk (blk_below HC4.out hd)
         have c5 : w5.cell? ⟨w.heap.size, 0, none⟩ = some (.bool true) := (blk_cell HC5.out 0).trans rfl
         refine ⟨_, rfl, ?_⟩
         clear hd)
      | ((with_reducible refine gate_dst (N := 69) rfl ?_); go_must ((try (refine gate_guard (by rfl) ?_; dsimp only)); refine goesL_ (some 69) rfl rfl Tryd.func29 (by kernel_rfl) rfl #[.int .u8 ib, .int .u8 ia, .pointer (some ⟨w.heap.size, 0, none⟩)] rfl (by (try simp only [List.map_toArray, List.map_cons, List.map_nil]); first | done | rfl) ?_; refine (times29 ib ia ab w.heap.size w w5 HT.out HB5.out (Nat.le_refl _) HC5.out HBA.out).mono ?_)
         rintro e w6 ⟨rfl, hc, hb⟩
         have HB6 := Aside0.mk hb
         have HC6 := Aside0.mk hc
         have c6 : w6.cell? ⟨w.heap.size, 0, none⟩ = some (.bool true) := (blk_cell hc 0).trans rfl
         refine ⟨_, rfl, ?_⟩
         clear hb hc)
      | ((with_reducible refine gate_dst (N := 75) rfl ?_); go_must ((try (refine gate_guard (by rfl) ?_; dsimp only)); refine goesL_ (some 75) rfl rfl Tryd.func29 (by kernel_rfl) rfl #[.int .u8 ab, .int .u8 ic, .pointer (some ⟨w.heap.size, 0, none⟩)] rfl (by (try simp only [List.map_toArray, List.map_cons, List.map_nil]); first | done | rfl) ?_; refine (times29 ab ic abc w.heap.size w w6 HT.out HB6.out (Nat.le_refl _) HC6.out HABC.out).mono ?_)
         rintro e w7 ⟨rfl, hc, hb⟩
         have HB7 := Aside0.mk hb
         have HC7 := Aside0.mk hc
         have c7 : w7.cell? ⟨w.heap.size, 0, none⟩ = some (.bool true) := (blk_cell hc 0).trans rfl
         refine ⟨_, rfl, ?_⟩
         clear hb hc)
      | ((with_reducible refine gate_dst (N := 78) rfl ?_); go_must ((try (refine gate_guard (by rfl) ?_; dsimp only)); refine goesL_ (some 78) rfl rfl Tryd.func29 (by kernel_rfl) rfl #[.int .u8 ia, .int .u8 bc, .pointer (some ⟨w.heap.size, 0, none⟩)] rfl (by (try simp only [List.map_toArray, List.map_cons, List.map_nil]); first | done | rfl) ?_; refine (times29 ia bc abc w.heap.size w w7 HT.out HB7.out (Nat.le_refl _) HC7.out HABC2.out).mono ?_)
         rintro e w8 ⟨rfl, hc, hb⟩
         have HB8 := Aside0.mk hb
         have HC8 := Aside0.mk hc
         have c8 : w8.cell? ⟨w.heap.size, 0, none⟩ = some (.bool true) := (blk_cell hc 0).trans rfl
         refine ⟨_, rfl, ?_⟩
         clear hb hc)
      | ((with_reducible refine gate_dst (N := 84) rfl ?_); go_must ((try (refine gate_guard (by rfl) ?_; dsimp only)); refine goesL_ (some 84) rfl rfl Tryd.func29 (by kernel_rfl) rfl #[.int .u8 ia, .int .u8 s, .pointer (some ⟨w.heap.size, 0, none⟩)] rfl (by (try simp only [List.map_toArray, List.map_cons, List.map_nil]); first | done | rfl) ?_; refine (times29 ia s sa w.heap.size w w8 HT.out HB8.out (Nat.le_refl _) HC8.out HSA.out).mono ?_)
         rintro e w9 ⟨rfl, hc, hb⟩
         have HB9 := Aside0.mk hb
         have HC9 := Aside0.mk hc
         have c9 : w9.cell? ⟨w.heap.size, 0, none⟩ = some (.bool true) := (blk_cell hc 0).trans rfl
         refine ⟨_, rfl, ?_⟩
         clear hb hc)
      | ((with_reducible refine gate_dst (N := 92) rfl ?_); go_must ((try (refine gate_guard (by rfl) ?_; dsimp only)); refine goesL_ (some 92) rfl rfl Tryd.func29 (by kernel_rfl) rfl #[.int .u8 ia, .int .u8 1, .pointer (some ⟨w.heap.size, 0, none⟩)] rfl (by (try simp only [List.map_toArray, List.map_cons, List.map_nil]); first | done | rfl) ?_; refine (times29 ia 1 ia w.heap.size w w9 HT.out HB9.out (Nat.le_refl _) HC9.out HA1.out).mono ?_)
         rintro e w10 ⟨rfl, hc, hb⟩
         have HB10 := Aside0.mk hb
         have HC10 := Aside0.mk hc
         have c10 : w10.cell? ⟨w.heap.size, 0, none⟩ = some (.bool true) := (blk_cell hc 0).trans rfl
         refine ⟨_, rfl, ?_⟩
         clear hb hc)
      | ((with_reducible refine gate_dst (N := 98) rfl ?_); go_must ((try (refine gate_guard (by rfl) ?_; dsimp only)); refine goesL_ (some 98) rfl rfl Tryd.func29 (by kernel_rfl) rfl #[.int .u8 ia, .int .u8 0, .pointer (some ⟨w.heap.size, 0, none⟩)] rfl (by (try simp only [List.map_toArray, List.map_cons, List.map_nil]); first | done | rfl) ?_; refine (times29 ia 0 0 w.heap.size w w10 HT.out HB10.out (Nat.le_refl _) HC10.out HA0.out).mono ?_)
         rintro e w11 ⟨rfl, hc, hb⟩
         have HB11 := Aside0.mk hb
         have HC11 := Aside0.mk hc
         have c11 : w11.cell? ⟨w.heap.size, 0, none⟩ = some (.bool true) := (blk_cell hc 0).trans rfl
         refine ⟨_, rfl, ?_⟩
         clear hb hc)
      | ((with_reducible refine gate_dst (N := 109) rfl ?_); go_must (refine goesL_ (some 109) rfl rfl Tryd.func32 (by kernel_rfl) rfl #[.int .u8 ia] rfl (by (try simp only [List.map_toArray, List.map_cons, List.map_nil]); first | done | rfl) ?_; refine (field_Inv.calls ia iv 0 w11 (Kd.C_below HT.out HB11.out) HIV.out).mono ?_)
         rintro e w12 ⟨rfl, hd⟩
         have HB12 := Aside0.mk (below_then HB11.out HB11.out.size hd.below)
         have HC12 := Aside0.mk (blk_below HC11.out hd.below)
         have c12 : w12.cell? ⟨w.heap.size, 0, none⟩ = some (.bool true) := (blk_cell HC12.out 0).trans rfl
         refine ⟨_, rfl, ?_⟩
         clear hd)
      | ((with_reducible refine gate_dst (N := 117) rfl ?_); go_must ((try (refine gate_guard (by rfl) ?_; dsimp only)); refine goesL_ (some 117) rfl rfl Tryd.func29 (by kernel_rfl) rfl #[.int .u8 ia, .int .u8 iv, .pointer (some ⟨w.heap.size, 0, none⟩)] rfl (by (try simp only [List.map_toArray, List.map_cons, List.map_nil]); first | done | rfl) ?_; refine (times29 ia iv 1 w.heap.size w w12 HT.out HB12.out (Nat.le_refl _) HC12.out HAI.out).mono ?_)
         rintro e w13 ⟨rfl, hc, hb⟩
         have HB13 := Aside0.mk hb
         have HC13 := Aside0.mk hc
         have c13 : w13.cell? ⟨w.heap.size, 0, none⟩ = some (.bool true) := (blk_cell hc 0).trans rfl
         refine ⟨_, rfl, ?_⟩
         clear hb hc)
      | ((with_reducible refine gate_dst (N := 189) rfl ?_); go_must ((try (refine gate_guard (by rfl) ?_; dsimp only)); refine goesL_ (some 189) rfl rfl Tryd.func11 (by kernel_rfl) rfl #[] rfl (by (try simp only [List.map_toArray, List.map_cons, List.map_nil]); first | done | rfl) ?_; refine (letterbaglaw18_awake.calls true w13 (Kd.C_below HT.out HB13.out) rfl).mono ?_)
         rintro e we ⟨rfl, hb⟩
         have HE := Aside0.mk (below_then HB13.out HB13.out.size hb)
         refine ⟨_, rfl, ?_⟩
         clear hb)
      | fail)
      go_ret
      exact ⟨rfl, HE.out⟩
    · have f1 : (ib == 0) = false := by rw [HIB.out]; simpa using ofF_ne h1
      have f2 : (ib != 0) = true := by rw [HIB.out]; simpa using ofF_ne h1
      have hne : a * b ≠ 0 := fun h => (mul_eq_zero h).elim h0 h1
      have g1 : (ofF (a * b) == 0) = false := by simpa using ofF_ne hne
      have l1 := Log_f h0
      have l2 := Log_f h1
      have l3 := Log_f hne
      have lm := lg_mulF h0 h1
      have lp := epw_f two_ne (((lg a.v : Nat) : Int) + ((lg b.v : Nat) : Int)) (by omega) (by have := lg_lt a.h (ne_v h0); have := lg_lt b.h (ne_v h1); omega)
      rw [epw_two h0 h1, show ofF (el 2) = 2 from rfl] at lp
      have q1 := lg_lt a.h (ne_v h0)
      have q2 := lg_lt b.h (ne_v h1)
      rw [← HIA.out] at l1
      rw [← HIB.out] at l2
      obtain ⟨l, hl⟩ : ∃ i : Int, i = ((lg a.v : Nat) : Int) := ⟨_, rfl⟩
      obtain ⟨m, hm⟩ : ∃ i : Int, i = ((lg b.v : Nat) : Int) := ⟨_, rfl⟩
      have hl0 : 0 ≤ l := by omega
      have hl1 : l ≤ 62 := by omega
      have hm0 : 0 ≤ m := by omega
      have hm1 : m ≤ 62 := by omega
      rw [← hl] at l1 lm lp
      rw [← hm] at l2 lm lp
      generalize ((lg (a * b).v : Nat) : Int) = n at l3 lm
      obtain ⟨ab, hab⟩ : ∃ i, i = ofF (a * b) := ⟨_, rfl⟩
      rw [← hab] at l3 lp g1
      clear hl hm q1 q2 hne h0 h1
      rw [← hab] at m1 m6 m7 hxor hab0 hab1
      generalize ofF (b * c) = bc at m2 m8
      generalize ofF (b + c) = s at m3 m9
      generalize ofF (a * c) = ac at m4 hxor
      generalize ofF (a * (b * c)) = abc at m7 m8
      generalize ofF (a * (b + c)) = sa at m9 hxor
      have HAB := Aside0.mk m1
      have HBC := Aside0.mk m2
      have HS := Aside0.mk m3
      have HAC := Aside0.mk m4
      have HAA := Aside0.mk m5
      have HBA := Aside0.mk m6
      have HABC := Aside0.mk m7
      have HABC2 := Aside0.mk m8
      have HSA := Aside0.mk m9
      have HA1 := Aside0.mk m10
      have HA0 := Aside0.mk m11
      clear m1 m2 m3 m4 m5 m6 m7 m8 m9 m10 m11 hab
      have HLA := Aside0.mk l1
      have HLB := Aside0.mk l2
      have HLN := Aside0.mk l3
      have HPW := Aside0.mk lp
      clear l1 l2 l3 lp
      go_enter Tryd.func8, Tryd.ntmps8
      go_upto_region 2 with (fail)
      rw [hxa, hxb, hxc]
      clear hxa hxb hxc
      go_wp2_with (first
      | ((with_reducible refine gate_dst (N := 36) rfl ?_); go_must (refine goesL_ (some 36) rfl rfl Tryd.func29 (by kernel_rfl) rfl #[.int .u8 ia, .int .u8 ib, .pointer (some ⟨w.heap.size, 0, none⟩)] rfl (by (try simp only [List.map_toArray, List.map_cons, List.map_nil]); first | done | rfl) ?_; refine (times29 ia ib ab w.heap.size w (w.alloc (.cells #[.bool true] 4)) HT.out HB0.out (Nat.le_refl _) HC0.out HAB.out).mono ?_)
         rintro e w1 ⟨rfl, hc, hb⟩
         have HB1 := Aside0.mk hb
         have HC1 := Aside0.mk hc
         have c1 : w1.cell? ⟨w.heap.size, 0, none⟩ = some (.bool true) := (blk_cell hc 0).trans rfl
         refine ⟨_, rfl, ?_⟩
         clear hb hc)
      | ((with_reducible refine gate_dst (N := 39) rfl ?_); go_must (refine goesL_ (some 39) rfl rfl Tryd.func29 (by kernel_rfl) rfl #[.int .u8 ib, .int .u8 ic, .pointer (some ⟨w.heap.size, 0, none⟩)] rfl (by (try simp only [List.map_toArray, List.map_cons, List.map_nil]); first | done | rfl) ?_; refine (times29 ib ic bc w.heap.size w w1 HT.out HB1.out (Nat.le_refl _) HC1.out HBC.out).mono ?_)
         rintro e w2 ⟨rfl, hc, hb⟩
         have HB2 := Aside0.mk hb
         have HC2 := Aside0.mk hc
         have c2 : w2.cell? ⟨w.heap.size, 0, none⟩ = some (.bool true) := (blk_cell hc 0).trans rfl
         refine ⟨_, rfl, ?_⟩
         clear hb hc)
      | ((with_reducible refine gate_dst (N := 43) rfl ?_); go_must (refine goesL_ (some 43) rfl rfl Tryd.func30 (by kernel_rfl) rfl #[.int .u8 ib, .int .u8 ic] rfl (by (try simp only [List.map_toArray, List.map_cons, List.map_nil]); first | done | rfl) ?_; refine (field_Add.calls ib ic s 0 w2 HS.out).mono ?_)
         rintro e w3 ⟨rfl, hd⟩
         have HB3 := Aside0.mk (below_then HB2.out HB2.out.size hd)
         have HC3 := Aside0.mk (blk_below HC2.out hd)
         have c3 : w3.cell? ⟨w.heap.size, 0, none⟩ = some (.bool true) := (blk_cell HC3.out 0).trans rfl
         refine ⟨_, rfl, ?_⟩
         clear hd)
      | ((with_reducible refine gate_dst (N := 48) rfl ?_); go_must (refine goesL_ (some 48) rfl rfl Tryd.func29 (by kernel_rfl) rfl #[.int .u8 ia, .int .u8 ic, .pointer (some ⟨w.heap.size, 0, none⟩)] rfl (by (try simp only [List.map_toArray, List.map_cons, List.map_nil]); first | done | rfl) ?_; refine (times29 ia ic ac w.heap.size w w3 HT.out HB3.out (Nat.le_refl _) HC3.out HAC.out).mono ?_)
         rintro e w4 ⟨rfl, hc, hb⟩
         have HB4 := Aside0.mk hb
         have HC4 := Aside0.mk hc
         have c4 : w4.cell? ⟨w.heap.size, 0, none⟩ = some (.bool true) := (blk_cell hc 0).trans rfl
         refine ⟨_, rfl, ?_⟩
         clear hb hc)
      | ((with_reducible refine gate_dst (N := 52) rfl ?_); go_must (refine goesL_ (some 52) rfl rfl Tryd.func30 (by kernel_rfl) rfl #[.int .u8 ia, .int .u8 ia] rfl (by (try simp only [List.map_toArray, List.map_cons, List.map_nil]); first | done | rfl) ?_; refine (field_Add.calls ia ia 0 0 w4 HAA.out).mono ?_)
         rintro e w5 ⟨rfl, hd⟩
         have HB5 := Aside0.mk (below_then HB4.out HB4.out.size hd)
         have HC5 := Aside0.mk (blk_below HC4.out hd)
         have c5 : w5.cell? ⟨w.heap.size, 0, none⟩ = some (.bool true) := (blk_cell HC5.out 0).trans rfl
         refine ⟨_, rfl, ?_⟩
         clear hd)
      | ((with_reducible refine gate_dst (N := 69) rfl ?_); go_must ((try (refine gate_guard (by rfl) ?_; dsimp only)); refine goesL_ (some 69) rfl rfl Tryd.func29 (by kernel_rfl) rfl #[.int .u8 ib, .int .u8 ia, .pointer (some ⟨w.heap.size, 0, none⟩)] rfl (by (try simp only [List.map_toArray, List.map_cons, List.map_nil]); first | done | rfl) ?_; refine (times29 ib ia ab w.heap.size w w5 HT.out HB5.out (Nat.le_refl _) HC5.out HBA.out).mono ?_)
         rintro e w6 ⟨rfl, hc, hb⟩
         have HB6 := Aside0.mk hb
         have HC6 := Aside0.mk hc
         have c6 : w6.cell? ⟨w.heap.size, 0, none⟩ = some (.bool true) := (blk_cell hc 0).trans rfl
         refine ⟨_, rfl, ?_⟩
         clear hb hc)
      | ((with_reducible refine gate_dst (N := 75) rfl ?_); go_must ((try (refine gate_guard (by rfl) ?_; dsimp only)); refine goesL_ (some 75) rfl rfl Tryd.func29 (by kernel_rfl) rfl #[.int .u8 ab, .int .u8 ic, .pointer (some ⟨w.heap.size, 0, none⟩)] rfl (by (try simp only [List.map_toArray, List.map_cons, List.map_nil]); first | done | rfl) ?_; refine (times29 ab ic abc w.heap.size w w6 HT.out HB6.out (Nat.le_refl _) HC6.out HABC.out).mono ?_)
         rintro e w7 ⟨rfl, hc, hb⟩
         have HB7 := Aside0.mk hb
         have HC7 := Aside0.mk hc
         have c7 : w7.cell? ⟨w.heap.size, 0, none⟩ = some (.bool true) := (blk_cell hc 0).trans rfl
         refine ⟨_, rfl, ?_⟩
         clear hb hc)
      | ((with_reducible refine gate_dst (N := 78) rfl ?_); go_must ((try (refine gate_guard (by rfl) ?_; dsimp only)); refine goesL_ (some 78) rfl rfl Tryd.func29 (by kernel_rfl) rfl #[.int .u8 ia, .int .u8 bc, .pointer (some ⟨w.heap.size, 0, none⟩)] rfl (by (try simp only [List.map_toArray, List.map_cons, List.map_nil]); first | done | rfl) ?_; refine (times29 ia bc abc w.heap.size w w7 HT.out HB7.out (Nat.le_refl _) HC7.out HABC2.out).mono ?_)
         rintro e w8 ⟨rfl, hc, hb⟩
         have HB8 := Aside0.mk hb
         have HC8 := Aside0.mk hc
         have c8 : w8.cell? ⟨w.heap.size, 0, none⟩ = some (.bool true) := (blk_cell hc 0).trans rfl
         refine ⟨_, rfl, ?_⟩
         clear hb hc)
      | ((with_reducible refine gate_dst (N := 84) rfl ?_); go_must ((try (refine gate_guard (by rfl) ?_; dsimp only)); refine goesL_ (some 84) rfl rfl Tryd.func29 (by kernel_rfl) rfl #[.int .u8 ia, .int .u8 s, .pointer (some ⟨w.heap.size, 0, none⟩)] rfl (by (try simp only [List.map_toArray, List.map_cons, List.map_nil]); first | done | rfl) ?_; refine (times29 ia s sa w.heap.size w w8 HT.out HB8.out (Nat.le_refl _) HC8.out HSA.out).mono ?_)
         rintro e w9 ⟨rfl, hc, hb⟩
         have HB9 := Aside0.mk hb
         have HC9 := Aside0.mk hc
         have c9 : w9.cell? ⟨w.heap.size, 0, none⟩ = some (.bool true) := (blk_cell hc 0).trans rfl
         refine ⟨_, rfl, ?_⟩
         clear hb hc)
      | ((with_reducible refine gate_dst (N := 92) rfl ?_); go_must ((try (refine gate_guard (by rfl) ?_; dsimp only)); refine goesL_ (some 92) rfl rfl Tryd.func29 (by kernel_rfl) rfl #[.int .u8 ia, .int .u8 1, .pointer (some ⟨w.heap.size, 0, none⟩)] rfl (by (try simp only [List.map_toArray, List.map_cons, List.map_nil]); first | done | rfl) ?_; refine (times29 ia 1 ia w.heap.size w w9 HT.out HB9.out (Nat.le_refl _) HC9.out HA1.out).mono ?_)
         rintro e w10 ⟨rfl, hc, hb⟩
         have HB10 := Aside0.mk hb
         have HC10 := Aside0.mk hc
         have c10 : w10.cell? ⟨w.heap.size, 0, none⟩ = some (.bool true) := (blk_cell hc 0).trans rfl
         refine ⟨_, rfl, ?_⟩
         clear hb hc)
      | ((with_reducible refine gate_dst (N := 98) rfl ?_); go_must ((try (refine gate_guard (by rfl) ?_; dsimp only)); refine goesL_ (some 98) rfl rfl Tryd.func29 (by kernel_rfl) rfl #[.int .u8 ia, .int .u8 0, .pointer (some ⟨w.heap.size, 0, none⟩)] rfl (by (try simp only [List.map_toArray, List.map_cons, List.map_nil]); first | done | rfl) ?_; refine (times29 ia 0 0 w.heap.size w w10 HT.out HB10.out (Nat.le_refl _) HC10.out HA0.out).mono ?_)
         rintro e w11 ⟨rfl, hc, hb⟩
         have HB11 := Aside0.mk hb
         have HC11 := Aside0.mk hc
         have c11 : w11.cell? ⟨w.heap.size, 0, none⟩ = some (.bool true) := (blk_cell hc 0).trans rfl
         refine ⟨_, rfl, ?_⟩
         clear hb hc)
      | ((with_reducible refine gate_dst (N := 109) rfl ?_); go_must (refine goesL_ (some 109) rfl rfl Tryd.func32 (by kernel_rfl) rfl #[.int .u8 ia] rfl (by (try simp only [List.map_toArray, List.map_cons, List.map_nil]); first | done | rfl) ?_; refine (field_Inv.calls ia iv 0 w11 (Kd.C_below HT.out HB11.out) HIV.out).mono ?_)
         rintro e w12 ⟨rfl, hd⟩
         have HB12 := Aside0.mk (below_then HB11.out HB11.out.size hd.below)
         have HC12 := Aside0.mk (blk_below HC11.out hd.below)
         have c12 : w12.cell? ⟨w.heap.size, 0, none⟩ = some (.bool true) := (blk_cell HC12.out 0).trans rfl
         refine ⟨_, rfl, ?_⟩
         clear hd)
      | ((with_reducible refine gate_dst (N := 117) rfl ?_); go_must ((try (refine gate_guard (by rfl) ?_; dsimp only)); refine goesL_ (some 117) rfl rfl Tryd.func29 (by kernel_rfl) rfl #[.int .u8 ia, .int .u8 iv, .pointer (some ⟨w.heap.size, 0, none⟩)] rfl (by (try simp only [List.map_toArray, List.map_cons, List.map_nil]); first | done | rfl) ?_; refine (times29 ia iv 1 w.heap.size w w12 HT.out HB12.out (Nat.le_refl _) HC12.out HAI.out).mono ?_)
         rintro e w13 ⟨rfl, hc, hb⟩
         have HB13 := Aside0.mk hb
         have HC13 := Aside0.mk hc
         have c13 : w13.cell? ⟨w.heap.size, 0, none⟩ = some (.bool true) := (blk_cell hc 0).trans rfl
         refine ⟨_, rfl, ?_⟩
         clear hb hc)
      | ((with_reducible refine gate_dst (N := 128) rfl ?_); go_must (refine goesL_ (some 128) rfl rfl Tryd.func33 (by kernel_rfl) rfl #[.int .u8 ia] rfl (by (try simp only [List.map_toArray, List.map_cons, List.map_nil]); first | done | rfl) ?_; refine (field_Log.calls ia l 0 w13 (Kd.C_below HT.out HB13.out) HLA.out).mono ?_)
         rintro e w14 ⟨rfl, hd⟩
         have HB14 := Aside0.mk (below_then HB13.out HB13.out.size hd.below)
         have HC14 := Aside0.mk (blk_below HC13.out hd.below)
         have c14 : w14.cell? ⟨w.heap.size, 0, none⟩ = some (.bool true) := (blk_cell HC14.out 0).trans rfl
         refine ⟨_, rfl, ?_⟩
         clear hd)
      | ((with_reducible refine gate_dst (N := 133) rfl ?_); go_must (refine goesL_ (some 133) rfl rfl Tryd.func33 (by kernel_rfl) rfl #[.int .u8 ib] rfl (by (try simp only [List.map_toArray, List.map_cons, List.map_nil]); first | done | rfl) ?_; refine (field_Log.calls ib m 0 w14 (Kd.C_below HT.out HB14.out) HLB.out).mono ?_)
         rintro e w15 ⟨rfl, hd⟩
         have HB15 := Aside0.mk (below_then HB14.out HB14.out.size hd.below)
         have HC15 := Aside0.mk (blk_below HC14.out hd.below)
         have c15 : w15.cell? ⟨w.heap.size, 0, none⟩ = some (.bool true) := (blk_cell HC15.out 0).trans rfl
         refine ⟨_, rfl, ?_⟩
         clear hd)
      | ((with_reducible refine gate_dst (N := 138) rfl ?_); go_must (refine goesL_ (some 138) rfl rfl Tryd.func33 (by kernel_rfl) rfl #[.int .u8 ab] rfl (by (try simp only [List.map_toArray, List.map_cons, List.map_nil]); first | done | rfl) ?_; refine (field_Log.calls ab n 0 w15 (Kd.C_below HT.out HB15.out) HLN.out).mono ?_)
         rintro e w16 ⟨rfl, hd⟩
         have HB16 := Aside0.mk (below_then HB15.out HB15.out.size hd.below)
         have HC16 := Aside0.mk (blk_below HC15.out hd.below)
         have c16 : w16.cell? ⟨w.heap.size, 0, none⟩ = some (.bool true) := (blk_cell HC16.out 0).trans rfl
         refine ⟨_, rfl, ?_⟩
         clear hd)
      | ((with_reducible refine gate_dst (N := 145) rfl ?_); go_must (refine goesL_ (some 145) rfl rfl Tryd.func28 (by kernel_rfl) rfl #[.int .u8 2, .int .i64 (l + m)] rfl (by (try simp only [List.map_toArray, List.map_cons, List.map_nil]); first | done | rfl) ?_; refine (field_Pow.calls 2 (l + m) ab 0 w16 (Kd.C_below HT.out HB16.out) HPW.out).mono ?_)
         rintro e w17 ⟨rfl, hd⟩
         have HB17 := Aside0.mk (below_then HB16.out HB16.out.size hd.below)
         have HC17 := Aside0.mk (blk_below HC16.out hd.below)
         have c17 : w17.cell? ⟨w.heap.size, 0, none⟩ = some (.bool true) := (blk_cell HC17.out 0).trans rfl
         refine ⟨_, rfl, ?_⟩
         clear hd)
      | ((with_reducible refine gate_dst (N := 189) rfl ?_); go_must ((try (refine gate_guard (by rfl) ?_; dsimp only)); refine goesL_ (some 189) rfl rfl Tryd.func11 (by kernel_rfl) rfl #[] rfl (by (try simp only [List.map_toArray, List.map_cons, List.map_nil]); first | done | rfl) ?_; refine (letterbaglaw18_awake.calls true w17 (Kd.C_below HT.out HB17.out) rfl).mono ?_)
         rintro e we ⟨rfl, hb⟩
         have HE := Aside0.mk (below_then HB17.out HB17.out.size hb)
         refine ⟨_, rfl, ?_⟩
         clear hb)
      | fail)
      go_ret
      exact ⟨rfl, HE.out⟩
end Go.Proofs.YtehgfpfmpkmdmaaDoor.Print
