/- The laws GrowerCoin and GrowerOut, walked. -/
import Derived.Test.YtogdhkecpjndlaaW3
set_option linter.unusedSimpArgs false
set_option linter.unusedVariables false
namespace Go.Proofs.Ytogdhkecpjndlaa.C
open Go.RowKit
set_option maxRecDepth 100000


theorem shareR_ok {l : Led} {c : Cn} {n : Int} (hf : fault l = 0) (hC : isCnt l c = true) (h0 : 0 ≤ n) (h1 : n ≤ 9999) : cErr l c (inB n 0 9999) = 0 ∧ shareR l c n = shareL (dues l c) n := by
  have h : cErr l c (inB n 0 9999) = 0 := by unfold cErr; rw [if_pos hf, hC, inB_iff.2 ⟨h0, h1⟩]; rfl
  exact ⟨h, by unfold shareR; rw [if_pos h]⟩
theorem getD_at {xs : List Int} {i : Nat} (h : i < xs.length) : xs.getD i 0 = xs[i] := by simp [List.getD, h]
theorem RowI.lt' {w : World} {A : Option Addr} {xs : List Int} (h : RowI w A xs) (hp : xs.length ≠ 0) (b off : Nat) (e : A = some ⟨b, off, none⟩) : b < w.heap.size := by
  cases xs with
  | nil => exact absurd rfl hp
  | cons x xs =>
    obtain ⟨b', off', e', h0⟩ := h 0 x rfl
    rw [e] at e'
    cases e'
    exact cell_lt h0

set_option maxHeartbeats 8000000 in
theorem GrowerCoin_c {l : Led} {A C : Option Addr} {cA cC : Nat} {a b : Int} {w : World} (hL : LedR w l A C) (ha : (Lit.int .u16 a).wf = true) (hb : (Lit.int .u16 b).wf = true) :
    Calls Try.prog 8 #[ledV l A C cA cC, .int .u16 a, .int .u16 b] w fun e w' => e = .returned (.bool true) ∧ G w w' := by
  have HL := Lib.hid hL
  have ha2 : 0 ≤ a ∧ a ≤ 65535 := by simpa [Lit.wf, IntKind.min, IntKind.max, IntKind.signed, IntKind.bits] using ha
  have hb2 : 0 ≤ b ∧ b ≤ 65535 := by simpa [Lit.wf, IntKind.min, IntKind.max, IntKind.signed, IntKind.bits] using hb
  clear hL ha hb
  cases hr : readyB l
  · go_enter Try.func8, Try.ntmps8
    go_wp2_with fail
    have hB : G w (w.alloc (.cells #[.int .i64 l.lo, .int .i64 l.hi, .slice A l.gs.length cA, .slice C l.cs.length cC] 27)) := (G.refl _).alloc _
    generalize w.alloc _ = W at *
    refine (ready_c (HL.out.grow hB)).mono ?_
    rw [hr]
    rintro e w1 ⟨rfl, hb1⟩
    clear hr
    go_wp2_with fail
    refine (awake_c w1).mono ?_
    rintro e w2 ⟨rfl, hb2⟩
    go_wp2_with fail
    go_ret
    exact ⟨rfl, hB.trans (hb1.trans hb2)⟩
  obtain ⟨hg, hc, hf, hV⟩ := readyB_iff hr
  have HV := Lib.hid hV
  have HF := Lib.hid hf
  have hng := hV.ng
  have hr0 := hV.r0
  have hr1 := hV.r1
  have hr2 := hV.r2
  have hmp := manyL_pos hV
  have HVM : Hid (∀ g ∈ l.gs, 0 ≤ g.lo ∧ g.lo ≤ g.hi ∧ g.hi ≤ 1000) := fun g hg => by have := hV.g g hg; omega
  have hw1 : IntKind.i64.wrap a = a := IntWalk.i64_in _ (by omega)
  have hw2 : IntKind.i64.wrap b = b := IntWalk.i64_in _ (by omega)
  have HM : Hid (many 3000 (l.hi - l.lo + 1) l.gs = manyL l) := rfl
  clear hf hV
  go_enter Try.func8, Try.ntmps8
  go_wp2_with fail
  have hB : G w (w.alloc (.cells #[.int .i64 l.lo, .int .i64 l.hi, .slice A l.gs.length cA, .slice C l.cs.length cC] 27)) := (G.refl _).alloc _
  have k0 := LBox.one (w := w) (l := l) (A := A) (C := C) (cA := cA) (cC := cC)
  generalize w.alloc _ = W0 at *
  refine (ready_c (HL.out.grow hB)).mono ?_
  rw [hr]
  rintro e W ⟨rfl, hb1⟩
  have k := k0.grow hb1
  replace hB := hB.trans hb1
  clear hr hb1 k0
  go_wp2_with fail
  have htm : a.tmod (manyL l) = a % manyL l := Int.tmod_eq_emod_of_nonneg ha2.1
  have htb : b.tmod 9999 = b % 9999 := Int.tmod_eq_emod_of_nonneg hb2.1
  have hnz : ¬ manyL l = 0 := by omega
  have hq := mod_bd (m := a) hmp.1
  have hq0 : 0 ≤ a % manyL l := hq.1
  have hq1 : a % manyL l ≤ 1000000 := by omega
  have hw3 : IntKind.i64.wrap (a % manyL l) = a % manyL l := IntWalk.i64_in _ (by omega)
  have hw4 : IntKind.i64.wrap (b % 9999) = b % 9999 := IntWalk.i64_in _ (by omega)
  have hWw : w.heap.size < W.heap.size := cell_lt k.1
  go_cut [7, 8] (fun v7 v8 wc => ∃ (n7 : Nat) (B : Option Addr) (cB : Nat), v7 = .pointer (some ⟨n7, 0, none⟩) ∧ v8 = .int .i64 (b % 9999) ∧ w.heap.size < n7 ∧ CBox wc n7 (nthC l (a % manyL l)) B cB ∧ RowI wc B (nthC l (a % manyL l)).bs ∧ G W wc)
  case first =>
    refine wp_region_A (by as_aux_lemma => kernel_rfl) ?_
    obtain ⟨z, hz⟩ : ∃ z : World, z = { W with drawn := W.drawn + 1 } := ⟨_, rfl⟩
    rw [← hz]
    have gz : G W z := by rw [hz]; exact (G.refl _).drew
    clear hz
    have HS : LBox z w.heap.size l A C cA cC := k.grow gz
    have hzs := gz.size
    have hBz := hB.trans gz
    refine wpAny_fork (fun w' => LBox w' w.heap.size l A C cA cC) 12 ?_
    refine wpAnyU_takes (i := 0) rfl (by as_aux_lemma => kernel_rfl) (fun _ _ _ _ h => h) HS ?_
    apply Exists.intro
    apply And.intro
    · refine Or.inl (And.intro (by rfl) ?_)
      rintro w ⟨s0, s1, s2, s3⟩
      go_simp
      try rfl
    simp only [Act.put, List.setIfInBounds_toArray, List.set_cons_succ, List.set_cons_zero]
    refine wpAnyU_takes (i := 1) rfl (by as_aux_lemma => kernel_rfl) (fun _ _ _ _ h => h) HS ?_
    apply Exists.intro
    apply And.intro
    · refine Or.inl (And.intro (by rfl) ?_)
      rintro w ⟨s0, s1, s2, s3⟩
      go_simp
      try rfl
    simp only [Act.put, List.setIfInBounds_toArray, List.set_cons_succ, List.set_cons_zero]
    refine wpAnyU_takes (i := 2) rfl (by as_aux_lemma => kernel_rfl) (fun _ _ _ _ h => h) HS ?_
    apply Exists.intro
    apply And.intro
    · refine Or.inl (And.intro (by rfl) ?_)
      rintro w ⟨s0, s1, s2, s3⟩
      go_simp
      try rfl
    simp only [Act.put, List.setIfInBounds_toArray, List.set_cons_succ, List.set_cons_zero]
    refine wpAnyU_takes (i := 3) rfl (by as_aux_lemma => kernel_rfl) (fun _ _ _ _ h => h) HS ?_
    apply Exists.intro
    apply And.intro
    · refine Or.inl (And.intro (by rfl) ?_)
      rintro w ⟨s0, s1, s2, s3⟩
      go_simp
      try rfl
    simp only [Act.put, List.setIfInBounds_toArray, List.set_cons_succ, List.set_cons_zero]
    refine wpAnyU_takes (i := 7) rfl (by as_aux_lemma => kernel_rfl) (fun _ _ _ _ h => h) HS ?_
    apply Exists.intro
    apply And.intro
    · refine Or.inl (And.intro (by rfl) ?_)
      rintro w ⟨s0, s1, s2, s3⟩
      go_simp
      try rfl
    simp only [Act.put, List.setIfInBounds_toArray, List.set_cons_succ, List.set_cons_zero]
    refine wpAnyU_takes (i := 8) rfl (by as_aux_lemma => kernel_rfl) (fun _ _ _ _ h => h) HS ?_
    apply Exists.intro
    apply And.intro
    · refine Or.inl (And.intro (by rfl) ?_)
      rintro w ⟨s0, s1, s2, s3⟩
      go_simp
      try rfl
    simp only [Act.put, List.setIfInBounds_toArray, List.set_cons_succ, List.set_cons_zero]
    refine wpAnyU_takes (i := 9) rfl (by as_aux_lemma => kernel_rfl) (fun _ _ _ _ h => h) HS ?_
    apply Exists.intro
    apply And.intro
    · refine Or.inl (And.intro (by rfl) ?_)
      rintro w ⟨s0, s1, s2, s3⟩
      go_simp
      try rfl
    simp only [Act.put, List.setIfInBounds_toArray, List.set_cons_succ, List.set_cons_zero]
    refine wpAnyT_two (i := 4) (j := 10) (by as_aux_lemma => kernel_rfl) rfl rfl ?_ ?_
    · go_wp2_with fail
      refine (Many_c l.lo l.hi A (.slice C l.cs.length cC) l.gs cA z (by omega) (by omega) (by omega) (HL.out.g.grow hBz) HVM.out (by omega)).mono ?_
      rw [HM.out]
      rintro e w1 ⟨rfl, h1⟩
      go_wp2_with fail
      replace HS := HS.grow h1
      refine ⟨HS, ?_⟩
      refine wpAnyU_takes (i := 5) rfl (by as_aux_lemma => kernel_rfl) (fun _ _ _ _ h => h) HS ?_
      apply Exists.intro
      apply And.intro
      · refine Or.inl (And.intro (by rfl) ?_)
        rintro w ⟨s0, s1, s2, s3⟩
        go_simp
        try rfl
      simp only [Act.put, List.setIfInBounds_toArray, List.set_cons_succ, List.set_cons_zero]
      refine wpAnyT_two (i := 6) (j := 10) (by as_aux_lemma => kernel_rfl) rfl rfl ?_ ?_
      · go_wp2_with fail
        refine (Nth_c HV.out (HL.out.g.grow (hBz.trans h1)) hq0 hq1).mono ?_
        rintro e w2 ⟨⟨B, cB, rfl, hrow, hnew⟩, h2⟩
        go_wp2_with fail
        replace HS := HS.grow h2
        refine ⟨HS, ?_⟩
        have hs2 := (h1.trans h2).size
        have hB7 := Lib.hid hrow
        refine wpAnyT_one (i := 10) (by as_aux_lemma => kernel_rfl) rfl ?_
        go_wp2_with fail
        have n7 : Blk (w2.alloc (.cells #[.int .i64 0, .slice none 0 0] 49)) w2.heap.size 49 #[.int .i64 0, .slice none 0 0] := Blk.new _ _ _
        have x7 := (G.refl w2).alloc (.cells #[.int .i64 0, .slice none 0 0] 49)
        have y7 : (w2.alloc (.cells #[.int .i64 0, .slice none 0 0] 49)).heap.size = w2.heap.size + 1 := by simp
        replace HS := HS.grow x7
        generalize hm7 : w2.heap.size = m7 at *
        generalize w2.alloc _ = w3 at *
        refine ⟨HS, ?_⟩
        have b7 := n7
        have g7 := gz.trans (h1.trans (h2.trans x7))
        replace hrow := hrow.grow x7
        have u0 := b7.cell 0 (v := .int .i64 0) rfl
        have u1 := b7.cell 1 (v := .slice none 0 0) rfl
        have z0 := b7.frozen 0
        have z1 := b7.frozen 1
        have HRW := Lib.hid hrow
        have hW7 : W.heap.size ≤ m7 := by omega
        clear hrow
        refine wpAnyT_one (i := 11) (by as_aux_lemma => kernel_rfl) rfl ?_
        go_wp2_with fail
        have hQ := (b7.set 0 (.int .i64 (nthC l (a % manyL l)).r)).set 1 (.slice B (nthC l (a % manyL l)).bs.length cB)
        have hGG := (g7.setCell (p := ⟨m7, 0, none⟩) hW7 (.int .i64 (nthC l (a % manyL l)).r)).setCell (p := ⟨m7, 1, none⟩) hW7 (.slice B (nthC l (a % manyL l)).bs.length cB)
        refine ⟨k.grow hGG, ?_⟩
        refine wpAnyT_close (by as_aux_lemma => kernel_rfl) ?_
        refine wpAny_part (k := 12) (n := 1) (f := 0) rfl rfl (by as_aux_lemma => kernel_rfl) ?_
        simp only [List.drop_succ_cons, List.drop_zero, List.take_succ_cons, List.take_zero]
        go_wp2_with fail
        refine wpAny_done (by as_aux_lemma => kernel_rfl) ?_
        go_wp2_with fail
        go_meet
        refine ⟨m7, B, cB, rfl, rfl, by omega, CBox.of hQ, fun i x hx => ?_, hGG⟩
        obtain ⟨b', off, e, hc⟩ := HRW.out i x hx
        have hne : b' ≠ m7 := by
          (obtain ⟨p, q, e3, h3⟩ := hB7.out i x hx); have h4 := cell_lt h3; rw [e] at e3; cases e3; omega
        refine ⟨b', off, e, ?_⟩
        rw [World.cell?_setCell_other _ _ _ _ (fun h => hne (congrArg Addr.block h).symm), World.cell?_setCell_other _ _ _ _ (fun h => hne (congrArg Addr.block h).symm)]
        exact hc
      · go_wp2_with fail
        have n7 : Blk (w1.alloc (.cells #[.int .i64 0, .slice none 0 0] 49)) w1.heap.size 49 #[.int .i64 0, .slice none 0 0] := Blk.new _ _ _
        have x7 := (G.refl w1).alloc (.cells #[.int .i64 0, .slice none 0 0] 49)
        have y7 : (w1.alloc (.cells #[.int .i64 0, .slice none 0 0] 49)).heap.size = w1.heap.size + 1 := by simp
        replace HS := HS.grow x7
        generalize hm7 : w1.heap.size = m7 at *
        generalize w1.alloc _ = w3 at *
        refine ⟨HS, ?_⟩
        have b70 := n7
        have hs2 := h1.size
        refine wpAnyT_one (i := 6) (by as_aux_lemma => kernel_rfl) rfl ?_
        go_wp2_with fail
        refine (Nth_c HV.out (HL.out.g.grow (hBz.trans (h1.trans x7))) hq0 hq1).mono ?_
        rintro e w2 ⟨⟨B, cB, rfl, hrow, hnew⟩, h2⟩
        go_wp2_with fail
        replace HS := HS.grow h2
        refine ⟨HS, ?_⟩
        have b7 := b70.grow h2
        have g7 := gz.trans (h1.trans (x7.trans h2))
        have u0 := b7.cell 0 (v := .int .i64 0) rfl
        have u1 := b7.cell 1 (v := .slice none 0 0) rfl
        have z0 := b7.frozen 0
        have z1 := b7.frozen 1
        have HRW := Lib.hid hrow
        have hW7 : W.heap.size ≤ m7 := by omega
        clear hrow
        refine wpAnyT_one (i := 11) (by as_aux_lemma => kernel_rfl) rfl ?_
        go_wp2_with fail
        have hQ := (b7.set 0 (.int .i64 (nthC l (a % manyL l)).r)).set 1 (.slice B (nthC l (a % manyL l)).bs.length cB)
        have hGG := (g7.setCell (p := ⟨m7, 0, none⟩) hW7 (.int .i64 (nthC l (a % manyL l)).r)).setCell (p := ⟨m7, 1, none⟩) hW7 (.slice B (nthC l (a % manyL l)).bs.length cB)
        refine ⟨k.grow hGG, ?_⟩
        refine wpAnyT_close (by as_aux_lemma => kernel_rfl) ?_
        refine wpAny_part (k := 12) (n := 1) (f := 0) rfl rfl (by as_aux_lemma => kernel_rfl) ?_
        simp only [List.drop_succ_cons, List.drop_zero, List.take_succ_cons, List.take_zero]
        go_wp2_with fail
        refine wpAny_done (by as_aux_lemma => kernel_rfl) ?_
        go_wp2_with fail
        go_meet
        refine ⟨m7, B, cB, rfl, rfl, by omega, CBox.of hQ, fun i x hx => ?_, hGG⟩
        obtain ⟨b', off, e, hc⟩ := HRW.out i x hx
        have hne : b' ≠ m7 := by
          have := hnew b' off e; omega
        refine ⟨b', off, e, ?_⟩
        rw [World.cell?_setCell_other _ _ _ _ (fun h => hne (congrArg Addr.block h).symm), World.cell?_setCell_other _ _ _ _ (fun h => hne (congrArg Addr.block h).symm)]
        exact hc
    · go_wp2_with fail
      have n7 : Blk (z.alloc (.cells #[.int .i64 0, .slice none 0 0] 49)) z.heap.size 49 #[.int .i64 0, .slice none 0 0] := Blk.new _ _ _
      have x7 := (G.refl z).alloc (.cells #[.int .i64 0, .slice none 0 0] 49)
      have y7 : (z.alloc (.cells #[.int .i64 0, .slice none 0 0] 49)).heap.size = z.heap.size + 1 := by simp
      replace HS := HS.grow x7
      generalize hm7 : z.heap.size = m7 at *
      generalize z.alloc _ = w3 at *
      refine ⟨HS, ?_⟩
      have b70 := n7
      refine wpAnyT_one (i := 4) (by as_aux_lemma => kernel_rfl) rfl ?_
      go_wp2_with fail
      refine (Many_c l.lo l.hi A (.slice C l.cs.length cC) l.gs cA w3 (by omega) (by omega) (by omega) (HL.out.g.grow (hBz.trans x7)) HVM.out (by omega)).mono ?_
      rw [HM.out]
      rintro e w1 ⟨rfl, h1⟩
      go_wp2_with fail
      replace HS := HS.grow h1
      refine ⟨HS, ?_⟩
      refine wpAnyU_takes (i := 5) rfl (by as_aux_lemma => kernel_rfl) (fun _ _ _ _ h => h) HS ?_
      apply Exists.intro
      apply And.intro
      · refine Or.inl (And.intro (by rfl) ?_)
        rintro w ⟨s0, s1, s2, s3⟩
        go_simp
        try rfl
      simp only [Act.put, List.setIfInBounds_toArray, List.set_cons_succ, List.set_cons_zero]
      refine wpAnyT_one (i := 6) (by as_aux_lemma => kernel_rfl) rfl ?_
      have hs2 := h1.size
      go_wp2_with fail
      refine (Nth_c HV.out (HL.out.g.grow (hBz.trans (x7.trans h1))) hq0 hq1).mono ?_
      rintro e w2 ⟨⟨B, cB, rfl, hrow, hnew⟩, h2⟩
      go_wp2_with fail
      replace HS := HS.grow h2
      refine ⟨HS, ?_⟩
      have b7 := b70.grow (h1.trans h2)
      have g7 := gz.trans (x7.trans (h1.trans h2))
      have u0 := b7.cell 0 (v := .int .i64 0) rfl
      have u1 := b7.cell 1 (v := .slice none 0 0) rfl
      have z0 := b7.frozen 0
      have z1 := b7.frozen 1
      have HRW := Lib.hid hrow
      have hW7 : W.heap.size ≤ m7 := by omega
      clear hrow
      refine wpAnyT_one (i := 11) (by as_aux_lemma => kernel_rfl) rfl ?_
      go_wp2_with fail
      have hQ := (b7.set 0 (.int .i64 (nthC l (a % manyL l)).r)).set 1 (.slice B (nthC l (a % manyL l)).bs.length cB)
      have hGG := (g7.setCell (p := ⟨m7, 0, none⟩) hW7 (.int .i64 (nthC l (a % manyL l)).r)).setCell (p := ⟨m7, 1, none⟩) hW7 (.slice B (nthC l (a % manyL l)).bs.length cB)
      refine ⟨k.grow hGG, ?_⟩
      refine wpAnyT_close (by as_aux_lemma => kernel_rfl) ?_
      refine wpAny_part (k := 12) (n := 1) (f := 0) rfl rfl (by as_aux_lemma => kernel_rfl) ?_
      simp only [List.drop_succ_cons, List.drop_zero, List.take_succ_cons, List.take_zero]
      go_wp2_with fail
      refine wpAny_done (by as_aux_lemma => kernel_rfl) ?_
      go_wp2_with fail
      go_meet
      refine ⟨m7, B, cB, rfl, rfl, by omega, CBox.of hQ, fun i x hx => ?_, hGG⟩
      obtain ⟨b', off, e, hc⟩ := HRW.out i x hx
      have hne : b' ≠ m7 := by
        have := hnew b' off e; omega
      refine ⟨b', off, e, ?_⟩
      rw [World.cell?_setCell_other _ _ _ _ (fun h => hne (congrArg Addr.block h).symm), World.cell?_setCell_other _ _ _ _ (fun h => hne (congrArg Addr.block h).symm)]
      exact hc
  case rest =>
    obtain ⟨n7, B, cB, rfl, rfl, hn7, hc7, hr7, hgW⟩ := hcut
    have hC := nth_ok HV.out (a := a) ha2.1
    generalize nthC l (a % manyL l) = c at *
    have hsn : SN w.heap.size n7 l A C cA cC c B cB wc := ⟨k.grow hgW, hc7⟩
    replace hB := hB.trans hgW
    clear k hc7 hgW
    have HK := Lib.hid (cntOk_of HV.out hC)
    have hbl : c.bs.length ≤ 30 := by have := HK.out.len; omega
    have HSN := Lib.hid hsn
    have HRB := Lib.hid hr7
    have hbm := mod_bd (m := b) (show (1 : Int) ≤ 9999 by omega)
    obtain ⟨he1, hs1⟩ := shareR_ok (n := b % 9999) HF.out hC (by omega) (by omega)
    obtain ⟨he2, hs2⟩ := shareR_ok (n := b % 9999 + 1) HF.out hC (by omega) (by omega)
    have HSC := Lib.hid (fun (i : Nat) (hi : i < (dues l c).length) => share_coin (ds := dues l c) (sum := b % 9999) (by omega) hi)
    have HE1 := Lib.hid he1
    have HE2 := Lib.hid he2
    have HS1 := Lib.hid hs1
    have HS2 := Lib.hid hs2
    have HCC := Lib.hid hC
    generalize b % 9999 = n at *
    clear hsn hr7 he1 he2 hs1 hs2 hC hw4 htb
    go_wp2_with fail
    -- from world wc (grown by hB): the ledger, the count, the shares of n; takes 0 2 4; the call's part 5 2 4; takes 7 8 9; the last part 10 1 0
    refine wp_region_A (by as_aux_lemma => kernel_rfl) ?_
    obtain ⟨z, hz⟩ : ∃ z : World, z = { wc with drawn := wc.drawn + 1 } := ⟨_, rfl⟩
    rw [← hz]
    have gz : G wc z := by rw [hz]; exact (G.refl _).drew
    clear hz
    have gz1 := hB.trans gz
    have HS := HSN.out.grow gz
    refine wpAny_fork (SN w.heap.size n7 l A C cA cC c B cB) 5 ?_
    refine wpAnyU_takes (i := 0) rfl (by as_aux_lemma => kernel_rfl) (fun _ _ _ _ h => h) HS ?_
    apply Exists.intro
    apply And.intro
    · refine Or.inl (And.intro (by rfl) ?_)
      rintro w ⟨⟨s0, s1, s2, s3⟩, s4, s5⟩
      go_simp
      try rfl
    simp only [Act.put, List.setIfInBounds_toArray, List.set_cons_succ, List.set_cons_zero]
    refine wpAnyU_takes (i := 2) rfl (by as_aux_lemma => kernel_rfl) (fun _ _ _ _ h => h) HS ?_
    apply Exists.intro
    apply And.intro
    · refine Or.inl (And.intro (by rfl) ?_)
      rintro w ⟨⟨s0, s1, s2, s3⟩, s4, s5⟩
      go_simp
      try rfl
    simp only [Act.put, List.setIfInBounds_toArray, List.set_cons_succ, List.set_cons_zero]
    refine wpAnyU_takes (i := 4) rfl (by as_aux_lemma => kernel_rfl) (fun _ _ _ _ h => h) HS ?_
    apply Exists.intro
    apply And.intro
    · refine Or.inl (And.intro (by rfl) ?_)
      rintro w ⟨⟨s0, s1, s2, s3⟩, s4, s5⟩
      go_simp
      try rfl
    simp only [Act.put, List.setIfInBounds_toArray, List.set_cons_succ, List.set_cons_zero]
    refine wpAnyT_one (i := 1) (by as_aux_lemma => kernel_rfl) rfl ?_
    go_wp2_with fail
    refine (Ledger_c l A C cA cC z (HL.out.grow gz1) (by omega) (by omega)).mono ?_
    rintro e w2 ⟨⟨A2, C2, cA2, cC2, rfl, hL2, -, -⟩, hb2⟩
    have HL2 := Lib.hid hL2
    clear hL2
    go_wp2_with fail
    refine ⟨HS.grow hb2, ?_⟩
    refine wpAnyT_one (i := 3) (by as_aux_lemma => kernel_rfl) rfl ?_
    go_wp2_with fail
    refine (Count_c c B cB w2 (HRB.out.grow (gz.trans hb2)) (by omega)).mono ?_
    rintro e w3 ⟨⟨B3, c3, rfl, hr3⟩, hb3⟩
    have HR3 := Lib.hid hr3
    clear hr3
    go_wp2_with fail
    refine ⟨HS.grow (hb2.trans hb3), ?_⟩
    refine wpAnyT_close (by as_aux_lemma => kernel_rfl) ?_
    refine wpAny_part (k := 5) (n := 2) (f := 4) rfl rfl (by as_aux_lemma => kernel_rfl) ?_
    simp only [List.drop_succ_cons, List.drop_zero, List.take_succ_cons, List.take_zero]
    go_wp2_with fail
    refine (Share_c l A2 C2 B3 cA2 cC2 c3 c (n) w3 (HL2.out.grow hb3) HR3.out hg hc hbl).mono ?_
    rw [HE1.out, HS1.out]
    rintro e w4 ⟨⟨v4, rfl, ho4⟩, hb4⟩
    obtain ⟨A4, c4, rfl, -, hr4⟩ := ho4.row
    have HR4 := Lib.hid hr4
    have gg := gz.trans (hb2.trans (hb3.trans hb4))
    replace hB := hB.trans gg
    replace HSN := Lib.hid (HSN.out.grow gg)
    replace HRB := Lib.hid (HRB.out.grow gg)
    replace HS := HS.grow (hb2.trans (hb3.trans hb4))
    clear hr4 ho4 HL2 HR3 gg gz gz1 hb2 hb3 hb4
    go_wp2_with fail
    refine wpAny_fork (SN w.heap.size n7 l A C cA cC c B cB) 10 ?_
    refine wpAnyU_takes (i := 7) rfl (by as_aux_lemma => kernel_rfl) (fun _ _ _ _ h => h) HS ?_
    apply Exists.intro
    apply And.intro
    · refine Or.inl (And.intro (by rfl) ?_)
      rintro w ⟨⟨s0, s1, s2, s3⟩, s4, s5⟩
      go_simp
      try rfl
    simp only [Act.put, List.setIfInBounds_toArray, List.set_cons_succ, List.set_cons_zero]
    refine wpAnyU_takes (i := 8) rfl (by as_aux_lemma => kernel_rfl) (fun _ _ _ _ h => h) HS ?_
    apply Exists.intro
    apply And.intro
    · refine Or.inl (And.intro (by rfl) ?_)
      rintro w ⟨⟨s0, s1, s2, s3⟩, s4, s5⟩
      go_simp
      try rfl
    simp only [Act.put, List.setIfInBounds_toArray, List.set_cons_succ, List.set_cons_zero]
    refine wpAnyU_takes (i := 9) rfl (by as_aux_lemma => kernel_rfl) (fun _ _ _ _ h => h) HS ?_
    apply Exists.intro
    apply And.intro
    · refine Or.inl (And.intro (by rfl) ?_)
      rintro w ⟨⟨s0, s1, s2, s3⟩, s4, s5⟩
      go_simp
      try rfl
    simp only [Act.put, List.setIfInBounds_toArray, List.set_cons_succ, List.set_cons_zero]
    refine wpAnyT_close (by as_aux_lemma => kernel_rfl) ?_
    refine wpAny_part (k := 10) (n := 1) (f := 0) rfl rfl (by as_aux_lemma => kernel_rfl) ?_
    simp only [List.drop_succ_cons, List.drop_zero, List.take_succ_cons, List.take_zero]
    go_wp2_with fail
    refine wpAny_done (by as_aux_lemma => kernel_rfl) ?_
    go_wp2_with fail
    clear HS
    have hw6 : IntKind.i64.wrap (n + 1) = n + 1 := IntWalk.i64_in _ (by omega)
    -- from world w4 (grown by hB): the ledger, the count, the shares of n + 1; takes 0 2 4 5; the call's part 6 2 4; takes 8 9 10; the last part 11 1 0
    refine wp_region_A (by as_aux_lemma => kernel_rfl) ?_
    obtain ⟨z, hz⟩ : ∃ z : World, z = { w4 with drawn := w4.drawn + 1 } := ⟨_, rfl⟩
    rw [← hz]
    have gz : G w4 z := by rw [hz]; exact (G.refl _).drew
    clear hz
    have gz1 := hB.trans gz
    have HS := HSN.out.grow gz
    refine wpAny_fork (SN w.heap.size n7 l A C cA cC c B cB) 6 ?_
    refine wpAnyU_takes (i := 0) rfl (by as_aux_lemma => kernel_rfl) (fun _ _ _ _ h => h) HS ?_
    apply Exists.intro
    apply And.intro
    · refine Or.inl (And.intro (by rfl) ?_)
      rintro w ⟨⟨s0, s1, s2, s3⟩, s4, s5⟩
      go_simp
      try rfl
    simp only [Act.put, List.setIfInBounds_toArray, List.set_cons_succ, List.set_cons_zero]
    refine wpAnyU_takes (i := 2) rfl (by as_aux_lemma => kernel_rfl) (fun _ _ _ _ h => h) HS ?_
    apply Exists.intro
    apply And.intro
    · refine Or.inl (And.intro (by rfl) ?_)
      rintro w ⟨⟨s0, s1, s2, s3⟩, s4, s5⟩
      go_simp
      try rfl
    simp only [Act.put, List.setIfInBounds_toArray, List.set_cons_succ, List.set_cons_zero]
    refine wpAnyU_takes (i := 4) rfl (by as_aux_lemma => kernel_rfl) (fun _ _ _ _ h => h) HS ?_
    apply Exists.intro
    apply And.intro
    · refine Or.inl (And.intro (by rfl) ?_)
      rintro w ⟨⟨s0, s1, s2, s3⟩, s4, s5⟩
      go_simp
      try rfl
    simp only [Act.put, List.setIfInBounds_toArray, List.set_cons_succ, List.set_cons_zero]
    refine wpAnyU_takes (i := 5) rfl (by as_aux_lemma => kernel_rfl) (fun _ _ _ _ h => h) HS ?_
    apply Exists.intro
    apply And.intro
    · refine Or.inl (And.intro (by rfl) ?_)
      rintro w ⟨⟨s0, s1, s2, s3⟩, s4, s5⟩
      go_simp
      try rfl
    simp only [Act.put, List.setIfInBounds_toArray, List.set_cons_succ, List.set_cons_zero]
    refine wpAnyT_one (i := 1) (by as_aux_lemma => kernel_rfl) rfl ?_
    go_wp2_with fail
    refine (Ledger_c l A C cA cC z (HL.out.grow gz1) (by omega) (by omega)).mono ?_
    rintro e w2 ⟨⟨A2, C2, cA2, cC2, rfl, hL2, -, -⟩, hb2⟩
    have HL2 := Lib.hid hL2
    clear hL2
    go_wp2_with fail
    refine ⟨HS.grow hb2, ?_⟩
    refine wpAnyT_one (i := 3) (by as_aux_lemma => kernel_rfl) rfl ?_
    go_wp2_with fail
    refine (Count_c c B cB w2 (HRB.out.grow (gz.trans hb2)) (by omega)).mono ?_
    rintro e w3 ⟨⟨B3, c3, rfl, hr3⟩, hb3⟩
    have HR3 := Lib.hid hr3
    clear hr3
    go_wp2_with fail
    refine ⟨HS.grow (hb2.trans hb3), ?_⟩
    refine wpAnyT_close (by as_aux_lemma => kernel_rfl) ?_
    refine wpAny_part (k := 6) (n := 2) (f := 4) rfl rfl (by as_aux_lemma => kernel_rfl) ?_
    simp only [List.drop_succ_cons, List.drop_zero, List.take_succ_cons, List.take_zero]
    go_wp2_with fail
    refine (Share_c l A2 C2 B3 cA2 cC2 c3 c (n + 1) w3 (HL2.out.grow hb3) HR3.out hg hc hbl).mono ?_
    rw [HE2.out, HS2.out]
    rintro e w5 ⟨⟨v5, rfl, ho5⟩, hb5⟩
    obtain ⟨A5, c5, rfl, -, hr5⟩ := ho5.row
    have HR5 := Lib.hid hr5
    have gg := gz.trans (hb2.trans (hb3.trans hb5))
    replace hB := hB.trans gg
    replace HR4 := Lib.hid (HR4.out.grow gg)
    replace HS := HS.grow (hb2.trans (hb3.trans hb5))
    clear hr5 ho5 HL2 HR3 gg gz gz1 hb2 hb3 hb5 HSN HRB
    go_wp2_with fail
    refine wpAny_fork (SN w.heap.size n7 l A C cA cC c B cB) 11 ?_
    refine wpAnyU_takes (i := 8) rfl (by as_aux_lemma => kernel_rfl) (fun _ _ _ _ h => h) HS ?_
    apply Exists.intro
    apply And.intro
    · refine Or.inl (And.intro (by rfl) ?_)
      rintro w ⟨⟨s0, s1, s2, s3⟩, s4, s5⟩
      go_simp
      try rfl
    simp only [Act.put, List.setIfInBounds_toArray, List.set_cons_succ, List.set_cons_zero]
    refine wpAnyU_takes (i := 9) rfl (by as_aux_lemma => kernel_rfl) (fun _ _ _ _ h => h) HS ?_
    apply Exists.intro
    apply And.intro
    · refine Or.inl (And.intro (by rfl) ?_)
      rintro w ⟨⟨s0, s1, s2, s3⟩, s4, s5⟩
      go_simp
      try rfl
    simp only [Act.put, List.setIfInBounds_toArray, List.set_cons_succ, List.set_cons_zero]
    refine wpAnyU_takes (i := 10) rfl (by as_aux_lemma => kernel_rfl) (fun _ _ _ _ h => h) HS ?_
    apply Exists.intro
    apply And.intro
    · refine Or.inl (And.intro (by rfl) ?_)
      rintro w ⟨⟨s0, s1, s2, s3⟩, s4, s5⟩
      go_simp
      try rfl
    simp only [Act.put, List.setIfInBounds_toArray, List.set_cons_succ, List.set_cons_zero]
    refine wpAnyT_close (by as_aux_lemma => kernel_rfl) ?_
    refine wpAny_part (k := 11) (n := 1) (f := 0) rfl rfl (by as_aux_lemma => kernel_rfl) ?_
    simp only [List.drop_succ_cons, List.drop_zero, List.take_succ_cons, List.take_zero]
    go_wp2_with fail
    refine wpAny_done (by as_aux_lemma => kernel_rfl) ?_
    obtain ⟨⟨s0, s1, s2, s3⟩, s4, s5⟩ := HS
    have hl1 : (shareL (dues l c) n).length = l.gs.length := by rw [shareL_len, dues_len]
    have hl2 : (shareL (dues l c) (n + 1)).length = l.gs.length := by rw [shareL_len, dues_len]
    rw [hl1, hl2]
    have hnn : ((l.gs.length : Int) != l.gs.length) = false := by simp
    go_wp2_with fail
    clear hnn s0 s1 s2 s3 s4 s5
    go_loopw [13] (fun v13 wr => ∃ (k : Nat), k ≤ l.gs.length ∧ v13 = .int .i64 k ∧ G w5 wr) (fun v13 _ => l.gs.length - (intOf v13).toNat)
    case atStart => exact ⟨0, by omega, rfl, G.refl _⟩
    case round =>
      obtain ⟨k, hk, rfl, hbr⟩ := hrel
      by_cases hlt : k < l.gs.length
      · have hlt1 : k < (shareL (dues l c) n).length := by rw [hl1]; exact hlt
        have hlt2 : k < (shareL (dues l c) (n + 1)).length := by rw [hl2]; exact hlt
        obtain ⟨b4, off4, rfl, d4⟩ := HR4.out.at hlt1
        obtain ⟨b5, off5, rfl, d5⟩ := HR5.out.at hlt2
        have e4 := hbr.cell d4
        have e5 := hbr.cell d5
        have hle := HSC.out k (by rw [dues_len]; exact hlt)
        rw [getD_at hlt1, getD_at hlt2] at hle
        have hbd1 := share_bd (ds := dues l c) (sum := n) (by omega) (i := k) (by rw [dues_len]; exact hlt)
        rw [getD_at hlt1] at hbd1
        have hpd : pos ((dues l c).getD k 0) ≤ 1000000 := by
          have := dues_bd HV.out HK.out ((dues l c).getD k 0) (by rw [getD_at (by rw [dues_len]; exact hlt)]; exact List.getElem_mem _)
          unfold pos
          split <;> omega
        clear d4 d5
        generalize (shareL (dues l c) n)[k] = x at *
        generalize (shareL (dues l c) (n + 1))[k] = y at *
        have hki : (k : Int) < l.gs.length := by omega
        go_wp2_with fail
        go_quiet (fail)
        go_wp2_with fail
        go_roundw
        case rel => exact ⟨k + 1, by omega, by go_num, hbr.drewN _⟩
        case measure => simp [intOf]; omega
      · go_wp2_with fail
        refine (awake_c wr).mono ?_
        rintro e w14 ⟨rfl, hb14⟩
        go_wp2_with fail
        go_ret
        exact ⟨rfl, hB.trans (hbr.trans hb14)⟩
end Go.Proofs.Ytogdhkecpjndlaa.C
