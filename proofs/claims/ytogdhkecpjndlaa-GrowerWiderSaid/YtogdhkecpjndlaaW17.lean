/- The law GrowerWider, walked. -/
import Derived.Test.YtogdhkecpjndlaaU3
import Derived.Test.YtogdhkecpjndlaaW10
import Derived.Test.YtogdhkecpjndlaaW13
import Derived.Test.YtogdhkecpjndlaaA3
set_option linter.unusedSimpArgs false
set_option linter.unusedVariables false
namespace Go.Proofs.Ytogdhkecpjndlaa.C
open Go.RowKit
set_option maxRecDepth 100000



theorem tmod_nat2 {t n g : Nat} (h : t % n = g) : ((t : Int)).tmod (n : Int) = (g : Int) := by
  rw [Int.tmod_eq_emod_of_nonneg (by omega), ← h]
  rfl
theorem tdiv_two {b q : Int} (h0 : 0 ≤ b) (h : b / 2 = q) : b.tdiv 2 = q := by rw [Int.tdiv_eq_ediv_of_nonneg h0, h]
theorem tmod_two {b q : Int} (h0 : 0 ≤ b) (h : b % 2 = q) : b.tmod 2 = q := by rw [Int.tmod_eq_emod_of_nonneg h0, h]
set_option maxHeartbeats 16000000 in
theorem GrowerWider_c {l : Led} {A C : Option Addr} {cA cC : Nat} {a b s : Int} {w : World} (hL : LedR w l A C) (ha : (Lit.int .u8 a).wf = true) (hb : (Lit.int .u8 b).wf = true) (hs : (Lit.int .u16 s).wf = true) :
    Calls Try.prog 19 #[ledV l A C cA cC, .int .u8 a, .int .u8 b, .int .u16 s] w fun e w' => e = .returned (.bool true) ∧ G w w' := by
  have HL := Lib.hid hL
  have ha2 : 0 ≤ a ∧ a ≤ 255 := by simpa [Lit.wf, IntKind.min, IntKind.max, IntKind.signed, IntKind.bits] using ha
  have hb2 : 0 ≤ b ∧ b ≤ 255 := by simpa [Lit.wf, IntKind.min, IntKind.max, IntKind.signed, IntKind.bits] using hb
  have hs2 : 0 ≤ s ∧ s ≤ 65535 := by simpa [Lit.wf, IntKind.min, IntKind.max, IntKind.signed, IntKind.bits] using hs
  clear hL ha hb hs
  obtain ⟨t, rfl⟩ : ∃ t : Nat, a = t := ⟨a.toNat, by omega⟩
  cases hr : readyB l
  · go_enter Try.func19, Try.ntmps19
    go_wp2_with fail
    have hB : G w (w.alloc (.cells #[.int .i64 l.lo, .int .i64 l.hi, .slice A l.gs.length cA, .slice C l.cs.length cC] 27)) := (G.refl _).alloc _
    generalize w.alloc _ = W at *
    refine (ready_c (HL.out.grow hB)).mono ?_
    rw [hr]
    rintro e w1 ⟨rfl, hb1⟩
    clear hr
    go_wp2_with fail
    refine (awake_c w1).mono ?_
    rintro e w2 ⟨rfl, hb2⟩
    go_wp2_with fail
    go_ret
    exact ⟨rfl, hB.trans (hb1.trans hb2)⟩
  obtain ⟨hg, hc, hf, hV⟩ := readyB_iff hr
  have HV := Lib.hid hV
  have HF := Lib.hid hf
  have hng := hV.ng
  have hnc := hV.nc
  clear hf hV
  go_enter Try.func19, Try.ntmps19
  go_wp2_with fail
  have hB : G w (w.alloc (.cells #[.int .i64 l.lo, .int .i64 l.hi, .slice A l.gs.length cA, .slice C l.cs.length cC] 27)) := (G.refl _).alloc _
  have k0 := LBox.one (w := w) (l := l) (A := A) (C := C) (cA := cA) (cC := cC)
  generalize w.alloc _ = W0 at *
  refine (ready_c (HL.out.grow hB)).mono ?_
  rw [hr]
  rintro e W ⟨rfl, hb1⟩
  have HK := Lib.hid (k0.grow hb1)
  replace hB := hB.trans hb1
  clear hr hb1 k0
  obtain ⟨s0, s1, s2, s3⟩ := HK.out
  clear s0 s1 s2 s3
  obtain ⟨s0, s1, s2, s3⟩ := HK.out
  go_upto_region 4 with fail
  have HNX := Lib.hid (Blk.new W (cells4 l A C cA cC) 27)
  have gx := (G.refl W).alloc (.cells (cells4 l A C cA cC) 27)
  have hwx := cell_lt s0
  have hxl := HNX.out.lt
  replace HK := Lib.hid (HK.out.grow gx)
  replace hB := hB.trans gx
  generalize hbx : W.heap.size = bx at *
  generalize hV : W.alloc _ = V at *
  have hbw : w.heap.size < bx := by omega
  clear hbx hV gx hwx s0 s1 s2 s3
  obtain ⟨W, rfl⟩ : ∃ W' : World, W' = V := ⟨_, rfl⟩
  -- x's lists copied: the region ahead; x's box bx (below W), l's box; to wc
  go_cut [9] (fun v9 wc => v9 = .pointer (some ⟨bx, 0, none⟩) ∧ LBox wc w.heap.size l A C cA cC ∧ ∃ A1 c1 C1 c2, XB wc W.heap.size bx l.lo l.hi l.gs.length l.cs.length l.gs l.cs A1 C1 c1 c2 ∧ G w wc)
  case first =>
    refine wp_region_A (by as_aux_lemma => kernel_rfl) ?_
    obtain ⟨z, hz⟩ : ∃ z : World, z = { W with drawn := W.drawn + 1 } := ⟨_, rfl⟩
    rw [← hz]
    have gz : G W z := by rw [hz]; exact (G.refl _).drew
    clear hz
    have HSG := Lib.hid (fun (w' : World) (h : G z w') => HK.out.grow (gz.trans h))
    have HS := HSG.out z (G.refl _)
    refine wpAny_fork (fun w' => LBox w' w.heap.size l A C cA cC) 11 ?_
    refine wpAnyU_takes' (i := 1) rfl (by as_aux_lemma => kernel_rfl) (fun _ _ _ _ h => h) HS ?_
    apply Exists.intro
    apply And.intro
    · refine Or.inl (And.intro (by rfl) ?_)
      rintro w ⟨s0, s1, s2, s3⟩
      go_simp
      try rfl
    simp only [Act.put, List.setIfInBounds_toArray, List.set_cons_succ, List.set_cons_zero]
    refine wpAnyU_takes' (i := 2) rfl (by as_aux_lemma => kernel_rfl) (fun _ _ _ _ h => h) HS ?_
    apply Exists.intro
    apply And.intro
    · refine Or.inl (And.intro (by rfl) ?_)
      rintro w ⟨s0, s1, s2, s3⟩
      go_simp
      try rfl
    simp only [Act.put, List.setIfInBounds_toArray, List.set_cons_succ, List.set_cons_zero]
    refine wpAnyU_takes' (i := 5) rfl (by as_aux_lemma => kernel_rfl) (fun _ _ _ _ h => h) HS ?_
    apply Exists.intro
    apply And.intro
    · refine Or.inl (And.intro (by rfl) ?_)
      rintro w ⟨s0, s1, s2, s3⟩
      go_simp
      try rfl
    simp only [Act.put, List.setIfInBounds_toArray, List.set_cons_succ, List.set_cons_zero]
    refine wpAnyU_takes' (i := 6) rfl (by as_aux_lemma => kernel_rfl) (fun _ _ _ _ h => h) HS ?_
    apply Exists.intro
    apply And.intro
    · refine Or.inl (And.intro (by rfl) ?_)
      rintro w ⟨s0, s1, s2, s3⟩
      go_simp
      try rfl
    simp only [Act.put, List.setIfInBounds_toArray, List.set_cons_succ, List.set_cons_zero]
    refine wpAnyT_two2 (i := 0) (j := 4) (by as_aux_lemma => kernel_rfl) rfl rfl ?_ ?_
    · -- the growers' empty list e1: from z (grown from z by G.refl z) to w1, by g1
      go_wp2_with fail
      have g1 := (G.refl z).alloc (.cells #[] 86)
      have HE1 := Lib.hid (Blk.new z #[] 86)
      have gm := (G.refl z).alloc (.cells #[] 86)
      generalize hme : z.heap.size = e1 at *
      generalize hmw : z.alloc _ = w1 at *
      have hle1 : z.heap.size ≤ e1 := by have h1 := (G.refl z).size; omega
      have hma1 : z.heap.size ≤ e1 := by omega
      have hma2 : e1 ≤ z.heap.size := by omega
      clear hme hmw
      refine ⟨HSG.out w1 (g1), ?_⟩
      refine wpAnyT_two2 (i := 3) (j := 4) (by as_aux_lemma => kernel_rfl) rfl rfl ?_ ?_
      · -- the growers copied: from w1 (grown by g1) to w2, by g2
        go_wp2_with (at_builtin; refine app_3w 24 86 und24 info86 e1 rfl _ _ rfl _ [] l.gs rfl A l.gs.length cA rfl rfl (HL.out.g.grow (hB.trans (gz.trans (g1)))) (own_of_empty2 HE1.out) (by have := HE1.out.lt; omega) (by simp; omega) ?_; intro v3 w2 o1 o2 o3)
        have g2 := (g1).grown o2 (fun q hq => by have e2 : some e1 = some q := hq; injection e2; omega)
        have HGG := Lib.hid (grown_row2 o2)
        have HGO : Hid (v3.ownBlock = some e1 ∨ v3.ownBlock = some w1.heap.size) := o3
        obtain ⟨AG, cG, rfl, -, -⟩ := o1.row
        have HOG : Hid (Own3 86 z.heap.size w2 (.slice AG l.gs.length cG) l.gs) := own_lower o1 hle1
        clear o1 o2 o3
        simp only [List.nil_append] at *
        go_wp2_with fail
        refine ⟨HSG.out w2 (g2), ?_⟩
        have HS := HSG.out w2 (g2)
        refine wpAnyU_takes' (i := 8) rfl (by as_aux_lemma => kernel_rfl) (fun _ _ _ _ h => h) HS ?_
        apply Exists.intro
        apply And.intro
        · refine Or.inl (And.intro (by rfl) ?_)
          rintro w ⟨s0, s1, s2, s3⟩
          go_simp
          try rfl
        simp only [Act.put, List.setIfInBounds_toArray, List.set_cons_succ, List.set_cons_zero]
        clear HS
        refine wpAnyT_one' (i := 4) (by as_aux_lemma => kernel_rfl) rfl ?_
        go_wp2_with fail
        have g3 := (g2).alloc (.cells #[] 97)
        have HE2 := Lib.hid (Blk.new w2 #[] 97)
        have gm := (G.refl w2).alloc (.cells #[] 97)
        generalize hme : w2.heap.size = e2 at *
        generalize hmw : w2.alloc _ = w3 at *
        have hle2 : z.heap.size ≤ e2 := by have h1 := (g2).size; omega
        have hmb1 : w2.heap.size ≤ e2 := by omega
        have hmb2 : e2 ≤ w2.heap.size := by omega
        clear hme hmw
        refine ⟨HSG.out w3 (g3), ?_⟩
        have HNE := Lib.hid (fun q (hq : Value.ownBlock (.slice AG l.gs.length cG) = some q) => (show q ≠ e2 by have := own_lt HOG.out q hq; omega))
        replace HOG : Hid (Own3 86 z.heap.size w3 (.slice AG l.gs.length cG) l.gs) := own_grow HOG.out gm
        refine wpAnyT_one' (i := 7) (by as_aux_lemma => kernel_rfl) rfl ?_
        -- the claims copied: from w3 (grown by g3) to the end; HNE: the growers' block is not e2
        go_wp2_with (at_builtin; refine app_3w 25 97 und25 info97' e2 rfl _ _ rfl _ [] l.cs rfl C l.cs.length cC rfl rfl (HL.out.c.grow (hB.trans (gz.trans (g3)))) (own_of_empty2 HE2.out) (by have := HE2.out.lt; omega) (by simp; omega) ?_; intro v4 w4 o1 o2 o3)
        have g4 := (g3).grown o2 (fun q hq => by have e3 : some e2 = some q := hq; injection e3; omega)
        have HOG4 : Hid (Own3 86 z.heap.size w4 (.slice AG l.gs.length cG) l.gs) := own_grownBy HOG.out (grown_row2 o2) (fun q hq e => by injection e with e; exact HNE.out q hq e.symm)
        have HCO : Hid (v4.ownBlock = some e2 ∨ v4.ownBlock = some w3.heap.size) := o3
        have HGL := Lib.hid (fun q (hq : Value.ownBlock (.slice AG l.gs.length cG) = some q) => own_lt HOG.out q hq)
        obtain ⟨AC, cc2, rfl, -, -⟩ := o1.row
        have HOC : Hid (Own3 97 z.heap.size w4 (.slice AC l.cs.length cc2) l.cs) := own_lower o1 hle2
        clear o1 o2 o3
        simp only [List.nil_append] at *
        go_wp2_with fail
        refine ⟨HSG.out w4 g4, ?_⟩
        refine wpAnyT_one' (i := 9) (by as_aux_lemma => kernel_rfl) rfl ?_
        have nb := HNX.out.grow (gz.trans g4)
        have y2 := nb.cell 2 (v := .slice A l.gs.length cA) rfl
        have z2 := nb.frozen 2
        go_wp2_with fail
        refine ⟨(HSG.out w4 g4).far2 (by show w.heap.size ≠ bx; omega) _, ?_⟩
        refine wpAnyT_one' (i := 10) (by as_aux_lemma => kernel_rfl) rfl ?_
        go_wp2_with fail
        refine ⟨(HSG.out w4 g4).far2 (by show w.heap.size ≠ bx; omega) _, ?_⟩
        refine wpAnyT_close (by as_aux_lemma => kernel_rfl) ?_
        refine wpAny_part (k := 11) (n := 1) (f := 0) rfl rfl (by as_aux_lemma => kernel_rfl) ?_
        simp only [List.drop_succ_cons, List.drop_zero, List.take_succ_cons, List.take_zero]
        have nb2 := nb.set 2 (.slice AG l.gs.length cG)
        have y3 := nb2.cell 3 (v := .slice C l.cs.length cC) rfl
        have z3 := nb2.frozen 3
        go_wp2_with fail
        refine wpAny_done (by as_aux_lemma => kernel_rfl) ?_
        go_wp2_with fail
        go_meet
        have nb3 := nb2.set 3 (.slice AC l.cs.length cc2)
        have hbz : bx < z.heap.size := by have := gz.size; omega
        refine ⟨rfl, ((HSG.out w4 g4).far2 (by show w.heap.size ≠ bx; omega) _).far2 (by show w.heap.size ≠ bx; omega) _, AG, cG, AC, cc2, ⟨hxl, rfl, rfl, nb3, ?_, ?_, ?_⟩, ((hB.trans (gz.trans g4)).setCell (p := ⟨bx, 2, none⟩) (by show w.heap.size ≤ bx; omega) _).setCell (p := ⟨bx, 3, none⟩) (by show w.heap.size ≤ bx; omega) _⟩
        · exact own_lower (own_far (own_far HOG4.out (fun q hq => by have := own_base HOG4.out q hq; show q ≠ bx; omega) _) (fun q hq => by have := own_base HOG4.out q hq; show q ≠ bx; omega) _) gz.size
        · exact own_lower (own_far (own_far HOC.out (fun q hq => by have := own_base HOC.out q hq; show q ≠ bx; omega) _) (fun q hq => by have := own_base HOC.out q hq; show q ≠ bx; omega) _) gz.size
        · intro q hq hc
          have h1 := HGL.out q hq
          rcases HCO.out with h2 | h2
          · rw [hc] at h2; injection h2 with h2; exact HNE.out q hq h2
          · rw [hc] at h2; injection h2 with h2; omega
      · have hE1 := HE1.out.lt
        go_wp2_with fail
        have g2 := (g1).alloc (.cells #[] 97)
        have HE2 := Lib.hid (Blk.new w1 #[] 97)
        have gm := (G.refl w1).alloc (.cells #[] 97)
        generalize hme : w1.heap.size = e2 at *
        generalize hmw : w1.alloc _ = w2 at *
        have hle2 : z.heap.size ≤ e2 := by have h1 := (g1).size; omega
        have hmb1 : w1.heap.size ≤ e2 := by omega
        have hmb2 : e2 ≤ w1.heap.size := by omega
        clear hme hmw
        refine ⟨HSG.out w2 (g2), ?_⟩
        have hE2 := HE2.out.lt
        replace HE1 := Lib.hid (HE1.out.grow gm)
        refine wpAnyT_one' (i := 3) (by as_aux_lemma => kernel_rfl) rfl ?_
        -- the growers copied: from w2 (grown by g2) to w3, by g3
        go_wp2_with (at_builtin; refine app_3w 24 86 und24 info86 e1 rfl _ _ rfl _ [] l.gs rfl A l.gs.length cA rfl rfl (HL.out.g.grow (hB.trans (gz.trans (g2)))) (own_of_empty2 HE1.out) (by have := HE1.out.lt; omega) (by simp; omega) ?_; intro v3 w3 o1 o2 o3)
        have g3 := (g2).grown o2 (fun q hq => by have e2 : some e1 = some q := hq; injection e2; omega)
        have HGG := Lib.hid (grown_row2 o2)
        have HGO : Hid (v3.ownBlock = some e1 ∨ v3.ownBlock = some w2.heap.size) := o3
        obtain ⟨AG, cG, rfl, -, -⟩ := o1.row
        have HOG : Hid (Own3 86 z.heap.size w3 (.slice AG l.gs.length cG) l.gs) := own_lower o1 hle1
        clear o1 o2 o3
        simp only [List.nil_append] at *
        go_wp2_with fail
        refine ⟨HSG.out w3 (g3), ?_⟩
        have HS := HSG.out w3 (g3)
        refine wpAnyU_takes' (i := 8) rfl (by as_aux_lemma => kernel_rfl) (fun _ _ _ _ h => h) HS ?_
        apply Exists.intro
        apply And.intro
        · refine Or.inl (And.intro (by rfl) ?_)
          rintro w ⟨s0, s1, s2, s3⟩
          go_simp
          try rfl
        simp only [Act.put, List.setIfInBounds_toArray, List.set_cons_succ, List.set_cons_zero]
        clear HS
        have HNE := Lib.hid (fun q (hq : Value.ownBlock (.slice AG l.gs.length cG) = some q) => (show q ≠ e2 by
          rcases HGO.out with h | h
          · rw [hq] at h; injection h; omega
          · rw [hq] at h; injection h; omega))
        replace HE2 := Lib.hid (HE2.out.grown HGG.out (fun e => by injection e; omega))
        refine wpAnyT_one' (i := 7) (by as_aux_lemma => kernel_rfl) rfl ?_
        -- the claims copied: from w3 (grown by g3) to the end; HNE: the growers' block is not e2
        go_wp2_with (at_builtin; refine app_3w 25 97 und25 info97' e2 rfl _ _ rfl _ [] l.cs rfl C l.cs.length cC rfl rfl (HL.out.c.grow (hB.trans (gz.trans (g3)))) (own_of_empty2 HE2.out) (by have := HE2.out.lt; omega) (by simp; omega) ?_; intro v4 w4 o1 o2 o3)
        have g4 := (g3).grown o2 (fun q hq => by have e3 : some e2 = some q := hq; injection e3; omega)
        have HOG4 : Hid (Own3 86 z.heap.size w4 (.slice AG l.gs.length cG) l.gs) := own_grownBy HOG.out (grown_row2 o2) (fun q hq e => by injection e with e; exact HNE.out q hq e.symm)
        have HCO : Hid (v4.ownBlock = some e2 ∨ v4.ownBlock = some w3.heap.size) := o3
        have HGL := Lib.hid (fun q (hq : Value.ownBlock (.slice AG l.gs.length cG) = some q) => own_lt HOG.out q hq)
        obtain ⟨AC, cc2, rfl, -, -⟩ := o1.row
        have HOC : Hid (Own3 97 z.heap.size w4 (.slice AC l.cs.length cc2) l.cs) := own_lower o1 hle2
        clear o1 o2 o3
        simp only [List.nil_append] at *
        go_wp2_with fail
        refine ⟨HSG.out w4 g4, ?_⟩
        refine wpAnyT_one' (i := 9) (by as_aux_lemma => kernel_rfl) rfl ?_
        have nb := HNX.out.grow (gz.trans g4)
        have y2 := nb.cell 2 (v := .slice A l.gs.length cA) rfl
        have z2 := nb.frozen 2
        go_wp2_with fail
        refine ⟨(HSG.out w4 g4).far2 (by show w.heap.size ≠ bx; omega) _, ?_⟩
        refine wpAnyT_one' (i := 10) (by as_aux_lemma => kernel_rfl) rfl ?_
        go_wp2_with fail
        refine ⟨(HSG.out w4 g4).far2 (by show w.heap.size ≠ bx; omega) _, ?_⟩
        refine wpAnyT_close (by as_aux_lemma => kernel_rfl) ?_
        refine wpAny_part (k := 11) (n := 1) (f := 0) rfl rfl (by as_aux_lemma => kernel_rfl) ?_
        simp only [List.drop_succ_cons, List.drop_zero, List.take_succ_cons, List.take_zero]
        have nb2 := nb.set 2 (.slice AG l.gs.length cG)
        have y3 := nb2.cell 3 (v := .slice C l.cs.length cC) rfl
        have z3 := nb2.frozen 3
        go_wp2_with fail
        refine wpAny_done (by as_aux_lemma => kernel_rfl) ?_
        go_wp2_with fail
        go_meet
        have nb3 := nb2.set 3 (.slice AC l.cs.length cc2)
        have hbz : bx < z.heap.size := by have := gz.size; omega
        refine ⟨rfl, ((HSG.out w4 g4).far2 (by show w.heap.size ≠ bx; omega) _).far2 (by show w.heap.size ≠ bx; omega) _, AG, cG, AC, cc2, ⟨hxl, rfl, rfl, nb3, ?_, ?_, ?_⟩, ((hB.trans (gz.trans g4)).setCell (p := ⟨bx, 2, none⟩) (by show w.heap.size ≤ bx; omega) _).setCell (p := ⟨bx, 3, none⟩) (by show w.heap.size ≤ bx; omega) _⟩
        · exact own_lower (own_far (own_far HOG4.out (fun q hq => by have := own_base HOG4.out q hq; show q ≠ bx; omega) _) (fun q hq => by have := own_base HOG4.out q hq; show q ≠ bx; omega) _) gz.size
        · exact own_lower (own_far (own_far HOC.out (fun q hq => by have := own_base HOC.out q hq; show q ≠ bx; omega) _) (fun q hq => by have := own_base HOC.out q hq; show q ≠ bx; omega) _) gz.size
        · intro q hq hc
          have h1 := HGL.out q hq
          rcases HCO.out with h2 | h2
          · rw [hc] at h2; injection h2 with h2; exact HNE.out q hq h2
          · rw [hc] at h2; injection h2 with h2; omega
    · go_wp2_with fail
      have g1 := (G.refl z).alloc (.cells #[] 97)
      have HE2 := Lib.hid (Blk.new z #[] 97)
      have gm := (G.refl z).alloc (.cells #[] 97)
      generalize hme : z.heap.size = e2 at *
      generalize hmw : z.alloc _ = w1 at *
      have hle2 : z.heap.size ≤ e2 := by have h1 := (G.refl z).size; omega
      have hmb1 : z.heap.size ≤ e2 := by omega
      have hmb2 : e2 ≤ z.heap.size := by omega
      clear hme hmw
      refine ⟨HSG.out w1 (g1), ?_⟩
      have hE2 := HE2.out.lt
      refine wpAnyT_one' (i := 0) (by as_aux_lemma => kernel_rfl) rfl ?_
      -- the growers' empty list e1: from w1 (grown from z by g1) to w2, by g2
      go_wp2_with fail
      have g2 := (g1).alloc (.cells #[] 86)
      have HE1 := Lib.hid (Blk.new w1 #[] 86)
      have gm := (G.refl w1).alloc (.cells #[] 86)
      generalize hme : w1.heap.size = e1 at *
      generalize hmw : w1.alloc _ = w2 at *
      have hle1 : z.heap.size ≤ e1 := by have h1 := (g1).size; omega
      have hma1 : w1.heap.size ≤ e1 := by omega
      have hma2 : e1 ≤ w1.heap.size := by omega
      clear hme hmw
      refine ⟨HSG.out w2 (g2), ?_⟩
      replace HE2 := Lib.hid (HE2.out.grow gm)
      have hE1 := HE1.out.lt
      refine wpAnyT_one' (i := 3) (by as_aux_lemma => kernel_rfl) rfl ?_
      -- the growers copied: from w2 (grown by g2) to w3, by g3
      go_wp2_with (at_builtin; refine app_3w 24 86 und24 info86 e1 rfl _ _ rfl _ [] l.gs rfl A l.gs.length cA rfl rfl (HL.out.g.grow (hB.trans (gz.trans (g2)))) (own_of_empty2 HE1.out) (by have := HE1.out.lt; omega) (by simp; omega) ?_; intro v3 w3 o1 o2 o3)
      have g3 := (g2).grown o2 (fun q hq => by have e2 : some e1 = some q := hq; injection e2; omega)
      have HGG := Lib.hid (grown_row2 o2)
      have HGO : Hid (v3.ownBlock = some e1 ∨ v3.ownBlock = some w2.heap.size) := o3
      obtain ⟨AG, cG, rfl, -, -⟩ := o1.row
      have HOG : Hid (Own3 86 z.heap.size w3 (.slice AG l.gs.length cG) l.gs) := own_lower o1 hle1
      clear o1 o2 o3
      simp only [List.nil_append] at *
      go_wp2_with fail
      refine ⟨HSG.out w3 (g3), ?_⟩
      have HS := HSG.out w3 (g3)
      refine wpAnyU_takes' (i := 8) rfl (by as_aux_lemma => kernel_rfl) (fun _ _ _ _ h => h) HS ?_
      apply Exists.intro
      apply And.intro
      · refine Or.inl (And.intro (by rfl) ?_)
        rintro w ⟨s0, s1, s2, s3⟩
        go_simp
        try rfl
      simp only [Act.put, List.setIfInBounds_toArray, List.set_cons_succ, List.set_cons_zero]
      clear HS
      have HNE := Lib.hid (fun q (hq : Value.ownBlock (.slice AG l.gs.length cG) = some q) => (show q ≠ e2 by
        rcases HGO.out with h | h
        · rw [hq] at h; injection h; omega
        · rw [hq] at h; injection h; omega))
      replace HE2 := Lib.hid (HE2.out.grown HGG.out (fun e => by injection e; omega))
      refine wpAnyT_one' (i := 7) (by as_aux_lemma => kernel_rfl) rfl ?_
      -- the claims copied: from w3 (grown by g3) to the end; HNE: the growers' block is not e2
      go_wp2_with (at_builtin; refine app_3w 25 97 und25 info97' e2 rfl _ _ rfl _ [] l.cs rfl C l.cs.length cC rfl rfl (HL.out.c.grow (hB.trans (gz.trans (g3)))) (own_of_empty2 HE2.out) (by have := HE2.out.lt; omega) (by simp; omega) ?_; intro v4 w4 o1 o2 o3)
      have g4 := (g3).grown o2 (fun q hq => by have e3 : some e2 = some q := hq; injection e3; omega)
      have HOG4 : Hid (Own3 86 z.heap.size w4 (.slice AG l.gs.length cG) l.gs) := own_grownBy HOG.out (grown_row2 o2) (fun q hq e => by injection e with e; exact HNE.out q hq e.symm)
      have HCO : Hid (v4.ownBlock = some e2 ∨ v4.ownBlock = some w3.heap.size) := o3
      have HGL := Lib.hid (fun q (hq : Value.ownBlock (.slice AG l.gs.length cG) = some q) => own_lt HOG.out q hq)
      obtain ⟨AC, cc2, rfl, -, -⟩ := o1.row
      have HOC : Hid (Own3 97 z.heap.size w4 (.slice AC l.cs.length cc2) l.cs) := own_lower o1 hle2
      clear o1 o2 o3
      simp only [List.nil_append] at *
      go_wp2_with fail
      refine ⟨HSG.out w4 g4, ?_⟩
      refine wpAnyT_one' (i := 9) (by as_aux_lemma => kernel_rfl) rfl ?_
      have nb := HNX.out.grow (gz.trans g4)
      have y2 := nb.cell 2 (v := .slice A l.gs.length cA) rfl
      have z2 := nb.frozen 2
      go_wp2_with fail
      refine ⟨(HSG.out w4 g4).far2 (by show w.heap.size ≠ bx; omega) _, ?_⟩
      refine wpAnyT_one' (i := 10) (by as_aux_lemma => kernel_rfl) rfl ?_
      go_wp2_with fail
      refine ⟨(HSG.out w4 g4).far2 (by show w.heap.size ≠ bx; omega) _, ?_⟩
      refine wpAnyT_close (by as_aux_lemma => kernel_rfl) ?_
      refine wpAny_part (k := 11) (n := 1) (f := 0) rfl rfl (by as_aux_lemma => kernel_rfl) ?_
      simp only [List.drop_succ_cons, List.drop_zero, List.take_succ_cons, List.take_zero]
      have nb2 := nb.set 2 (.slice AG l.gs.length cG)
      have y3 := nb2.cell 3 (v := .slice C l.cs.length cC) rfl
      have z3 := nb2.frozen 3
      go_wp2_with fail
      refine wpAny_done (by as_aux_lemma => kernel_rfl) ?_
      go_wp2_with fail
      go_meet
      have nb3 := nb2.set 3 (.slice AC l.cs.length cc2)
      have hbz : bx < z.heap.size := by have := gz.size; omega
      refine ⟨rfl, ((HSG.out w4 g4).far2 (by show w.heap.size ≠ bx; omega) _).far2 (by show w.heap.size ≠ bx; omega) _, AG, cG, AC, cc2, ⟨hxl, rfl, rfl, nb3, ?_, ?_, ?_⟩, ((hB.trans (gz.trans g4)).setCell (p := ⟨bx, 2, none⟩) (by show w.heap.size ≤ bx; omega) _).setCell (p := ⟨bx, 3, none⟩) (by show w.heap.size ≤ bx; omega) _⟩
      · exact own_lower (own_far (own_far HOG4.out (fun q hq => by have := own_base HOG4.out q hq; show q ≠ bx; omega) _) (fun q hq => by have := own_base HOG4.out q hq; show q ≠ bx; omega) _) gz.size
      · exact own_lower (own_far (own_far HOC.out (fun q hq => by have := own_base HOC.out q hq; show q ≠ bx; omega) _) (fun q hq => by have := own_base HOC.out q hq; show q ≠ bx; omega) _) gz.size
      · intro q hq hc
        have h1 := HGL.out q hq
        rcases HCO.out with h2 | h2
        · rw [hc] at h2; injection h2 with h2; exact HNE.out q hq h2
        · rw [hc] at h2; injection h2 with h2; omega
  case rest =>
    obtain ⟨rfl, hlb, A1, c1, C1, c2, hxb, hg6⟩ := hcut
    have HKL := Lib.hid hlb
    have HXB := Lib.hid hxb
    have hnbx := hxb.lt
    obtain ⟨base, hbase⟩ : ∃ base, W.heap.size = base := ⟨_, rfl⟩
    rw [hbase] at HXB hnbx
    clear hbase hlb hxb HK HNX hxl hB
    -- the numbers
    obtain ⟨pa, hpa⟩ : ∃ pa, b % 2 = pa := ⟨_, rfl⟩
    obtain ⟨q, hq⟩ : ∃ q, b / 2 = q := ⟨_, rfl⟩
    obtain ⟨pb, hpb⟩ : ∃ pb, q % 2 = pb := ⟨_, rfl⟩
    have hpa2 : 0 ≤ pa ∧ pa ≤ 1 := by omega
    have hq2 : 0 ≤ q ∧ q ≤ 127 := by omega
    have hpb2 : 0 ≤ pb ∧ pb ≤ 1 := by omega
    have e1 := tmod_two hb2.1 hpa
    have e2 := tdiv_two hb2.1 hq
    have e3 := tmod_two hq2.1 hpb
    have w1 : IntKind.i64.wrap b = b := IntWalk.i64_in _ (by omega)
    have w2 : IntKind.i64.wrap pa = pa := IntWalk.i64_in _ (by omega)
    have w3 : IntKind.i64.wrap q = q := IntWalk.i64_in _ (by omega)
    have w4 : IntKind.i64.wrap pb = pb := IntWalk.i64_in _ (by omega)
    obtain ⟨k, hk⟩ : ∃ k : Nat, t % (1 + l.gs.length + l.cs.length) = k := ⟨_, rfl⟩
    have hkl : k < 1 + l.gs.length + l.cs.length := by rw [← hk]; exact Nat.mod_lt _ (by omega)
    have e4 : ((t : Int)).tmod (1 + (l.gs.length : Int) + (l.cs.length : Int)) = (k : Int) := by
      have h := tmod_nat2 hk
      rw [← h]
      congr 1 <;> omega
    have w5 : IntKind.i64.wrap (t : Int) = t := IntWalk.i64_in _ (by omega)
    have w6 : IntKind.i64.wrap (1 + (l.gs.length : Int)) = 1 + (l.gs.length : Int) := IntWalk.i64_in _ (by omega)
    have w7 : IntKind.i64.wrap (1 + (l.gs.length : Int) + (l.cs.length : Int)) = 1 + (l.gs.length : Int) + (l.cs.length : Int) := IntWalk.i64_in _ (by omega)
    have w8 : IntKind.i64.wrap (k : Int) = k := IntWalk.i64_in _ (by omega)
    have w9 : ¬ (1 + (l.gs.length : Int) + (l.cs.length : Int) = 0) := by omega
    clear hpa hq hpb hk
    have y0 := HXB.out.blk.cell 0 (v := .int .i64 l.lo) rfl
    have y1 := HXB.out.blk.cell 1 (v := .int .i64 l.hi) rfl
    have y2 := HXB.out.blk.cell 2 (v := .slice A1 l.gs.length c1) rfl
    have y3 := HXB.out.blk.cell 3 (v := .slice C1 l.cs.length c2) rfl
    go_upto_if 53 with fail
    clear e1 e2 e3 e4 w1 w2 w3 w4 w5 w6 w7 w9
    have HY2 := Lib.hid y2
    have HY3 := Lib.hid y3
    clear y0 y1 y2 y3
    go_cut [9] (fun v9 wd => v9 = .pointer (some ⟨bx, 0, none⟩) ∧ LBox wd w.heap.size l A C cA cC ∧ ∃ lo' hi' gs' cs', XB wd base bx lo' hi' l.gs.length l.cs.length gs' cs' A1 C1 c1 c2 ∧ Wider l ⟨lo', hi', gs', cs'⟩ ∧ G w wd)
    case first =>
      by_cases h0 : k = 0
      · have z1 : ((k : Int) == 0) = true := by simp [h0]
        have z2 : (k == 0) = true := by simp [h0]
        have z3 : decide ((k : Int) = 0) = true := by simp [h0]
        have z4 : decide (k = 0) = true := by simp [h0]
        have hr0 := HV.out.r0
        have hr1 := HV.out.r1
        have hr2 := HV.out.r2
        obtain ⟨lm, hlm⟩ : ∃ lm, l.lo - pa = lm := ⟨_, rfl⟩
        obtain ⟨hm, hhm⟩ : ∃ hm, l.hi + pb = hm := ⟨_, rfl⟩
        have u1 : IntKind.i64.wrap (l.lo - pa) = lm := by rw [hlm]; exact IntWalk.i64_in _ (by omega)
        have u2 : IntKind.i64.wrap (l.hi + pb) = hm := by rw [hhm]; exact IntWalk.i64_in _ (by omega)
        have y0 := HXB.out.blk.cell 0 (v := .int .i64 l.lo) rfl
        have y1 := HXB.out.blk.cell 1 (v := .int .i64 l.hi) rfl
        have f0 := HXB.out.blk.frozen 0
        have f1 := HXB.out.blk.frozen 1
        obtain ⟨s0, s1, s2, s3⟩ := HKL.out
        have hlm1 : lm ≤ l.lo := by omega
        have hhm1 : l.hi ≤ hm := by omega
        clear hlm hhm h0 w8
        by_cases k1 : 0 < lm
        · by_cases k2 : hm < 30
          · go_wp2_with fail
            go_meet
            exact ⟨rfl, (HKL.out.far2 (by show w.heap.size ≠ bx; omega) _).far2 (by show w.heap.size ≠ bx; omega) _, _, _, _, _, HXB.out.setRate _ _, wider_rate l (by omega) (by omega), (hg6.setCell (p := ⟨bx, 0, none⟩) (by show w.heap.size ≤ bx; omega) _).setCell (p := ⟨bx, 1, none⟩) (by show w.heap.size ≤ bx; omega) _⟩
          · go_wp2_with fail
            go_meet
            exact ⟨rfl, (HKL.out.far2 (by show w.heap.size ≠ bx; omega) _).far2 (by show w.heap.size ≠ bx; omega) _, _, _, _, _, HXB.out.setRate _ _, wider_rate l (by omega) (by omega), (hg6.setCell (p := ⟨bx, 0, none⟩) (by show w.heap.size ≤ bx; omega) _).setCell (p := ⟨bx, 1, none⟩) (by show w.heap.size ≤ bx; omega) _⟩
        · by_cases k2 : hm < 30
          · go_wp2_with fail
            go_meet
            exact ⟨rfl, (HKL.out.far2 (by show w.heap.size ≠ bx; omega) _).far2 (by show w.heap.size ≠ bx; omega) _, _, _, _, _, HXB.out.setRate _ _, wider_rate l (by omega) (by omega), (hg6.setCell (p := ⟨bx, 0, none⟩) (by show w.heap.size ≤ bx; omega) _).setCell (p := ⟨bx, 1, none⟩) (by show w.heap.size ≤ bx; omega) _⟩
          · go_wp2_with fail
            go_meet
            exact ⟨rfl, (HKL.out.far2 (by show w.heap.size ≠ bx; omega) _).far2 (by show w.heap.size ≠ bx; omega) _, _, _, _, _, HXB.out.setRate _ _, wider_rate l (by omega) (by omega), (hg6.setCell (p := ⟨bx, 0, none⟩) (by show w.heap.size ≤ bx; omega) _).setCell (p := ⟨bx, 1, none⟩) (by show w.heap.size ≤ bx; omega) _⟩
      · have z1 : ((k : Int) == 0) = false := beq_eq_false_iff_ne.2 (by omega)
        have z2 : (k == 0) = false := beq_eq_false_iff_ne.2 h0
        have z3 : decide ((k : Int) = 0) = false := decide_eq_false (by omega)
        have z4 : decide (k = 0) = false := decide_eq_false h0
        by_cases hkg : k ≤ l.gs.length
        · obtain ⟨i, hi⟩ : ∃ i : Nat, k = i + 1 := ⟨k - 1, by omega⟩
          have hil : i < l.gs.length := by omega
          have hkg2 : (k : Int) ≤ l.gs.length := by omega
          have u0 : IntKind.i64.wrap ((k : Int) - 1) = (i : Int) := by rw [IntWalk.i64_in _ (by omega)]; omega
          obtain ⟨g1, rfl, hgb, hgl, hgc, hgz⟩ := HXB.out.openg (fun e => by rw [e] at hil; simp at hil)
          obtain ⟨-, q1, q2⟩ := hgc i l.gs[i] (List.getElem?_eq_getElem hil)
          have hgi := HV.out.g l.gs[i] (List.getElem_mem hil)
          clear hgc hi w8 h0
          -- the new numbers: bounds 0 and 9, the element l.gs[i]
          obtain ⟨ll, hll⟩ : ∃ ll, l.gs[i].lo = ll := ⟨_, rfl⟩
          obtain ⟨hh, hhh⟩ : ∃ hh, l.gs[i].hi = hh := ⟨_, rfl⟩
          rw [hll] at q1
          rw [hhh] at q2
          obtain ⟨lm, hlm⟩ : ∃ lm, ll - pa = lm := ⟨_, rfl⟩
          obtain ⟨hm, hhm⟩ : ∃ hm, hh + pb = hm := ⟨_, rfl⟩
          have HNL := Lib.hid (show IntKind.i64.wrap (ll - pa) = lm by rw [hlm]; exact IntWalk.i64_in _ (by omega))
          have HNH := Lib.hid (show IntKind.i64.wrap (hh + pb) = hm by rw [hhm]; exact IntWalk.i64_in _ (by omega))
          obtain ⟨nl, hnl⟩ : ∃ nl, (if 0 < lm then lm else 0) = nl := ⟨_, rfl⟩
          obtain ⟨nh, hnh⟩ : ∃ nh, (if hm < 9 then hm else 9) = nh := ⟨_, rfl⟩
          have HFL := Lib.hid hnl
          have HFH := Lib.hid hnh
          have HW1 := Lib.hid (show nl ≤ l.gs[i].lo by rw [hll, ← hnl]; split <;> omega)
          have HW2 := Lib.hid (show l.gs[i].hi ≤ nh by rw [hhh, ← hnh]; split <;> omega)
          have HFZ := Lib.hid (fun (z : World) (gz : G wc z) (n : Nat) => gz.frozen (a := ⟨g1, n, none⟩) hgl (hgz n))
          clear hll hhh hlm hhm hnl hnh hgz
          have y2 := HY2.out
          go_upto_region 11 with fail
          clear y2 u0 z1 z2 z3 z4
          -- a range's two numbers stored through a pointer to them: cells q1, q2, q3 of the world wd; new numbers nl, nh
          refine wp_region_A (by as_aux_lemma => kernel_rfl) ?_
          obtain ⟨z, hz⟩ : ∃ z : World, z = { wc with drawn := wc.drawn + 1 } := ⟨_, rfl⟩
          rw [← hz]
          have gz : G wc z := by rw [hz]; exact (G.refl _).drew
          clear hz
          have HS : True := trivial
          replace q1 := gz.cell q1
          replace q2 := gz.cell q2
          have HQ2 := Lib.hid q2
          have zf1 := HFZ.out z gz (i * 3 + 1)
          have zf2 := HFZ.out z gz (i * 3 + 1 + 1)
          refine wpAny_fork (fun _ => True) 21 ?_
          refine wpAnyU_takes' (i := 0) rfl (by as_aux_lemma => kernel_rfl) (fun _ _ _ _ h => h) HS ?_
          apply Exists.intro
          apply And.intro
          · refine Or.inl (And.intro (by rfl) ?_)
            rintro w s0
            go_simp
            try rfl
          simp only [Act.put, List.setIfInBounds_toArray, List.set_cons_succ, List.set_cons_zero]
          refine wpAnyU_takes' (i := 1) rfl (by as_aux_lemma => kernel_rfl) (fun _ _ _ _ h => h) HS ?_
          apply Exists.intro
          apply And.intro
          · refine Or.inl (And.intro (by rfl) ?_)
            rintro w s0
            go_simp
            try rfl
          simp only [Act.put, List.setIfInBounds_toArray, List.set_cons_succ, List.set_cons_zero]
          refine wpAnyU_takes' (i := 2) rfl (by as_aux_lemma => kernel_rfl) (fun _ _ _ _ h => h) HS ?_
          apply Exists.intro
          apply And.intro
          · refine Or.inl (And.intro (by rfl) ?_)
            rintro w s0
            go_simp
            try rfl
          simp only [Act.put, List.setIfInBounds_toArray, List.set_cons_succ, List.set_cons_zero]
          refine wpAnyU_takes' (i := 3) rfl (by as_aux_lemma => kernel_rfl) (fun _ _ _ _ h => h) HS ?_
          apply Exists.intro
          apply And.intro
          · refine Or.inl (And.intro (by rfl) ?_)
            rintro w s0
            go_simp
            try rfl
          simp only [Act.put, List.setIfInBounds_toArray, List.set_cons_succ, List.set_cons_zero]
          refine wpAnyU_takes' (i := 4) rfl (by as_aux_lemma => kernel_rfl) (fun _ _ _ _ h => h) HS ?_
          apply Exists.intro
          apply And.intro
          · refine Or.inl (And.intro (by rfl) ?_)
            rintro w s0
            go_simp
            try rfl
          simp only [Act.put, List.setIfInBounds_toArray, List.set_cons_succ, List.set_cons_zero]
          refine wpAnyU_takes' (i := 6) rfl (by as_aux_lemma => kernel_rfl) (fun _ _ _ _ h => h) HS ?_
          apply Exists.intro
          apply And.intro
          · refine Or.inl (And.intro (by rfl) ?_)
            rintro w s0
            go_simp
            try rfl
          simp only [Act.put, List.setIfInBounds_toArray, List.set_cons_succ, List.set_cons_zero]
          refine wpAnyU_takes' (i := 9) rfl (by as_aux_lemma => kernel_rfl) (fun _ _ _ _ h => h) HS ?_
          apply Exists.intro
          apply And.intro
          · refine Or.inl (And.intro (by rfl) ?_)
            rintro w s0
            go_simp
            try rfl
          simp only [Act.put, List.setIfInBounds_toArray, List.set_cons_succ, List.set_cons_zero]
          refine wpAnyU_takes' (i := 10) rfl (by as_aux_lemma => kernel_rfl) (fun _ _ _ _ h => h) HS ?_
          apply Exists.intro
          apply And.intro
          · refine Or.inl (And.intro (by rfl) ?_)
            rintro w s0
            go_simp
            try rfl
          simp only [Act.put, List.setIfInBounds_toArray, List.set_cons_succ, List.set_cons_zero]
          refine wpAnyU_takes' (i := 11) rfl (by as_aux_lemma => kernel_rfl) (fun _ _ _ _ h => h) HS ?_
          apply Exists.intro
          apply And.intro
          · refine Or.inl (And.intro (by rfl) ?_)
            rintro w s0
            go_simp
            try rfl
          simp only [Act.put, List.setIfInBounds_toArray, List.set_cons_succ, List.set_cons_zero]
          refine wpAnyU_takes' (i := 13) rfl (by as_aux_lemma => kernel_rfl) (fun _ _ _ _ h => h) HS ?_
          apply Exists.intro
          apply And.intro
          · refine Or.inl (And.intro (by rfl) ?_)
            rintro w s0
            go_simp
            try rfl
          simp only [Act.put, List.setIfInBounds_toArray, List.set_cons_succ, List.set_cons_zero]
          refine wpAnyT_two2 (i := 5) (j := 12) (by as_aux_lemma => kernel_rfl) rfl rfl ?_ ?_
          · go_wp2_with fail
            try refine And.intro trivial ?_
            refine wpAnyU_take' (i := 7) (v := .int .i64 lm) rfl (by as_aux_lemma => kernel_rfl) (fun _ _ _ h => h) HS (Or.inl ⟨by rfl, ?_⟩) ?_
            · rintro w s0
              go_simp
              exact HNL.out
            simp only [Act.put, List.setIfInBounds_toArray, List.set_cons_succ, List.set_cons_zero]
            refine wpAnyU_take' (i := 8) (v := .int .i64 nl) rfl (by as_aux_lemma => kernel_rfl) (fun _ _ _ h => h) HS (Or.inl ⟨by rfl, ?_⟩) ?_
            · rintro w s0
              go_simp
              exact HFL.out
            simp only [Act.put, List.setIfInBounds_toArray, List.set_cons_succ, List.set_cons_zero]
            refine wpAnyT_one' (i := 12) (by as_aux_lemma => kernel_rfl) rfl ?_
            go_wp2_with fail
            try refine And.intro trivial ?_
            refine wpAnyU_take' (i := 14) (v := .int .i64 hm) rfl (by as_aux_lemma => kernel_rfl) (fun _ _ _ h => h) HS (Or.inl ⟨by rfl, ?_⟩) ?_
            · rintro w s0
              go_simp
              exact HNH.out
            simp only [Act.put, List.setIfInBounds_toArray, List.set_cons_succ, List.set_cons_zero]
            refine wpAnyU_take' (i := 15) (v := .int .i64 nh) rfl (by as_aux_lemma => kernel_rfl) (fun _ _ _ h => h) HS (Or.inl ⟨by rfl, ?_⟩) ?_
            · rintro w s0
              go_simp
              exact HFH.out
            simp only [Act.put, List.setIfInBounds_toArray, List.set_cons_succ, List.set_cons_zero]
            refine wpAnyU_takes' (i := 16) rfl (by as_aux_lemma => kernel_rfl) (fun _ _ _ _ h => h) HS ?_
            apply Exists.intro
            apply And.intro
            · refine Or.inl (And.intro (by rfl) ?_)
              rintro w s0
              go_simp
              try rfl
            simp only [Act.put, List.setIfInBounds_toArray, List.set_cons_succ, List.set_cons_zero]
            refine wpAnyU_takes' (i := 17) rfl (by as_aux_lemma => kernel_rfl) (fun _ _ _ _ h => h) HS ?_
            apply Exists.intro
            apply And.intro
            · refine Or.inl (And.intro (by rfl) ?_)
              rintro w s0
              go_simp
              try rfl
            simp only [Act.put, List.setIfInBounds_toArray, List.set_cons_succ, List.set_cons_zero]
            refine wpAnyT_one' (i := 18) (by as_aux_lemma => kernel_rfl) rfl ?_
            go_wp2_with fail
            try refine And.intro trivial ?_
            refine wpAnyU_takes' (i := 19) rfl (by as_aux_lemma => kernel_rfl) (fun _ _ _ _ h => h) HS ?_
            apply Exists.intro
            apply And.intro
            · refine Or.inl (And.intro (by rfl) ?_)
              rintro w s0
              go_simp
              try rfl
            simp only [Act.put, List.setIfInBounds_toArray, List.set_cons_succ, List.set_cons_zero]
            refine wpAnyU_takes' (i := 20) rfl (by as_aux_lemma => kernel_rfl) (fun _ _ _ _ h => h) HS ?_
            apply Exists.intro
            apply And.intro
            · refine Or.inl (And.intro (by rfl) ?_)
              rintro w s0
              go_simp
              try rfl
            simp only [Act.put, List.setIfInBounds_toArray, List.set_cons_succ, List.set_cons_zero]
            refine wpAnyT_close (by as_aux_lemma => kernel_rfl) ?_
            refine wpAny_part (k := 21) (n := 1) (f := 0) rfl rfl (by as_aux_lemma => kernel_rfl) ?_
            simp only [List.drop_succ_cons, List.drop_zero, List.take_succ_cons, List.take_zero]
            have q3 : (z.setCell ⟨g1, i * 3 + 1, none⟩ (.int .i64 nl)).cell? ⟨g1, i * 3 + 1 + 1, none⟩ = some (.int .i64 hh) := by
              rw [World.cell?_setCell_other _ _ _ _ (fun h => by have := congrArg Addr.off h; simp at this)]
              exact HQ2.out
            go_wp2_with fail
            refine wpAny_done (by as_aux_lemma => kernel_rfl) ?_
            go_wp2_with fail
            go_meet
            exact ⟨rfl, ((HKL.out.grow gz).far2 (by show w.heap.size ≠ g1; omega) _).far2 (by show w.heap.size ≠ g1; omega) _, _, _, _, _, (HXB.out.grow gz).setg hil nl nh, wider_g l hil ⟨rfl, HW1.out, HW2.out⟩, ((hg6.trans gz).setCell (p := ⟨g1, i * 3 + 1, none⟩) (by show w.heap.size ≤ g1; omega) _).setCell (p := ⟨g1, i * 3 + 1 + 1, none⟩) (by show w.heap.size ≤ g1; omega) _⟩
          · go_wp2_with fail
            try refine And.intro trivial ?_
            refine wpAnyU_take' (i := 14) (v := .int .i64 hm) rfl (by as_aux_lemma => kernel_rfl) (fun _ _ _ h => h) HS (Or.inl ⟨by rfl, ?_⟩) ?_
            · rintro w s0
              go_simp
              exact HNH.out
            simp only [Act.put, List.setIfInBounds_toArray, List.set_cons_succ, List.set_cons_zero]
            refine wpAnyU_take' (i := 15) (v := .int .i64 nh) rfl (by as_aux_lemma => kernel_rfl) (fun _ _ _ h => h) HS (Or.inl ⟨by rfl, ?_⟩) ?_
            · rintro w s0
              go_simp
              exact HFH.out
            simp only [Act.put, List.setIfInBounds_toArray, List.set_cons_succ, List.set_cons_zero]
            refine wpAnyT_one' (i := 5) (by as_aux_lemma => kernel_rfl) rfl ?_
            go_wp2_with fail
            try refine And.intro trivial ?_
            refine wpAnyU_take' (i := 7) (v := .int .i64 lm) rfl (by as_aux_lemma => kernel_rfl) (fun _ _ _ h => h) HS (Or.inl ⟨by rfl, ?_⟩) ?_
            · rintro w s0
              go_simp
              exact HNL.out
            simp only [Act.put, List.setIfInBounds_toArray, List.set_cons_succ, List.set_cons_zero]
            refine wpAnyU_take' (i := 8) (v := .int .i64 nl) rfl (by as_aux_lemma => kernel_rfl) (fun _ _ _ h => h) HS (Or.inl ⟨by rfl, ?_⟩) ?_
            · rintro w s0
              go_simp
              exact HFL.out
            simp only [Act.put, List.setIfInBounds_toArray, List.set_cons_succ, List.set_cons_zero]
            refine wpAnyU_takes' (i := 16) rfl (by as_aux_lemma => kernel_rfl) (fun _ _ _ _ h => h) HS ?_
            apply Exists.intro
            apply And.intro
            · refine Or.inl (And.intro (by rfl) ?_)
              rintro w s0
              go_simp
              try rfl
            simp only [Act.put, List.setIfInBounds_toArray, List.set_cons_succ, List.set_cons_zero]
            refine wpAnyU_takes' (i := 17) rfl (by as_aux_lemma => kernel_rfl) (fun _ _ _ _ h => h) HS ?_
            apply Exists.intro
            apply And.intro
            · refine Or.inl (And.intro (by rfl) ?_)
              rintro w s0
              go_simp
              try rfl
            simp only [Act.put, List.setIfInBounds_toArray, List.set_cons_succ, List.set_cons_zero]
            refine wpAnyT_one' (i := 18) (by as_aux_lemma => kernel_rfl) rfl ?_
            go_wp2_with fail
            try refine And.intro trivial ?_
            refine wpAnyU_takes' (i := 19) rfl (by as_aux_lemma => kernel_rfl) (fun _ _ _ _ h => h) HS ?_
            apply Exists.intro
            apply And.intro
            · refine Or.inl (And.intro (by rfl) ?_)
              rintro w s0
              go_simp
              try rfl
            simp only [Act.put, List.setIfInBounds_toArray, List.set_cons_succ, List.set_cons_zero]
            refine wpAnyU_takes' (i := 20) rfl (by as_aux_lemma => kernel_rfl) (fun _ _ _ _ h => h) HS ?_
            apply Exists.intro
            apply And.intro
            · refine Or.inl (And.intro (by rfl) ?_)
              rintro w s0
              go_simp
              try rfl
            simp only [Act.put, List.setIfInBounds_toArray, List.set_cons_succ, List.set_cons_zero]
            refine wpAnyT_close (by as_aux_lemma => kernel_rfl) ?_
            refine wpAny_part (k := 21) (n := 1) (f := 0) rfl rfl (by as_aux_lemma => kernel_rfl) ?_
            simp only [List.drop_succ_cons, List.drop_zero, List.take_succ_cons, List.take_zero]
            have q3 : (z.setCell ⟨g1, i * 3 + 1, none⟩ (.int .i64 nl)).cell? ⟨g1, i * 3 + 1 + 1, none⟩ = some (.int .i64 hh) := by
              rw [World.cell?_setCell_other _ _ _ _ (fun h => by have := congrArg Addr.off h; simp at this)]
              exact HQ2.out
            go_wp2_with fail
            refine wpAny_done (by as_aux_lemma => kernel_rfl) ?_
            go_wp2_with fail
            go_meet
            exact ⟨rfl, ((HKL.out.grow gz).far2 (by show w.heap.size ≠ g1; omega) _).far2 (by show w.heap.size ≠ g1; omega) _, _, _, _, _, (HXB.out.grow gz).setg hil nl nh, wider_g l hil ⟨rfl, HW1.out, HW2.out⟩, ((hg6.trans gz).setCell (p := ⟨g1, i * 3 + 1, none⟩) (by show w.heap.size ≤ g1; omega) _).setCell (p := ⟨g1, i * 3 + 1 + 1, none⟩) (by show w.heap.size ≤ g1; omega) _⟩
        · obtain ⟨i, hi⟩ : ∃ i : Nat, k = i + 1 := ⟨k - 1, by omega⟩
          obtain ⟨j, hj⟩ : ∃ j : Nat, i = l.gs.length + j := ⟨i - l.gs.length, by omega⟩
          have hjl : j < l.cs.length := by omega
          have hkg2 : ¬ (k : Int) ≤ l.gs.length := by omega
          have u0 : IntKind.i64.wrap ((k : Int) - 1) = (i : Int) := by rw [IntWalk.i64_in _ (by omega)]; omega
          have u1 : IntKind.i64.wrap ((i : Int) - (l.gs.length : Int)) = (j : Int) := by rw [IntWalk.i64_in _ (by omega)]; omega
          obtain ⟨g1, rfl, hgb, hgl, hgc, hgz⟩ := HXB.out.openc (fun e => by rw [e] at hjl; simp at hjl)
          obtain ⟨-, q1, q2⟩ := hgc j l.cs[j] (List.getElem?_eq_getElem hjl)
          have hgi := HV.out.c l.cs[j] (List.getElem_mem hjl)
          clear hgc hi hj w8 h0
          -- the new numbers: bounds (-999 : Int) and 999, the element l.cs[j]
          obtain ⟨ll, hll⟩ : ∃ ll, l.cs[j].lo = ll := ⟨_, rfl⟩
          obtain ⟨hh, hhh⟩ : ∃ hh, l.cs[j].hi = hh := ⟨_, rfl⟩
          rw [hll] at q1
          rw [hhh] at q2
          obtain ⟨lm, hlm⟩ : ∃ lm, ll - pa = lm := ⟨_, rfl⟩
          obtain ⟨hm, hhm⟩ : ∃ hm, hh + pb = hm := ⟨_, rfl⟩
          have HNL := Lib.hid (show IntKind.i64.wrap (ll - pa) = lm by rw [hlm]; exact IntWalk.i64_in _ (by omega))
          have HNH := Lib.hid (show IntKind.i64.wrap (hh + pb) = hm by rw [hhm]; exact IntWalk.i64_in _ (by omega))
          obtain ⟨nl, hnl⟩ : ∃ nl, (if (-999 : Int) < lm then lm else (-999 : Int)) = nl := ⟨_, rfl⟩
          obtain ⟨nh, hnh⟩ : ∃ nh, (if hm < 999 then hm else 999) = nh := ⟨_, rfl⟩
          have HFL := Lib.hid hnl
          have HFH := Lib.hid hnh
          have HW1 := Lib.hid (show nl ≤ l.cs[j].lo by rw [hll, ← hnl]; split <;> omega)
          have HW2 := Lib.hid (show l.cs[j].hi ≤ nh by rw [hhh, ← hnh]; split <;> omega)
          have HFZ := Lib.hid (fun (z : World) (gz : G wc z) (n : Nat) => gz.frozen (a := ⟨g1, n, none⟩) hgl (hgz n))
          clear hll hhh hlm hhm hnl hnh hgz
          have y2 := HY2.out
          have y3 := HY3.out
          go_upto_region 13 with fail
          clear y2 y3 u0 u1 z1 z2 z3 z4
          -- a range's two numbers stored through a pointer to them: cells q1, q2, q3 of the world wd; new numbers nl, nh
          refine wp_region_A (by as_aux_lemma => kernel_rfl) ?_
          obtain ⟨z, hz⟩ : ∃ z : World, z = { wc with drawn := wc.drawn + 1 } := ⟨_, rfl⟩
          rw [← hz]
          have gz : G wc z := by rw [hz]; exact (G.refl _).drew
          clear hz
          have HS : True := trivial
          replace q1 := gz.cell q1
          replace q2 := gz.cell q2
          have HQ2 := Lib.hid q2
          have zf1 := HFZ.out z gz (j * 3 + 1)
          have zf2 := HFZ.out z gz (j * 3 + 1 + 1)
          refine wpAny_fork (fun _ => True) 21 ?_
          refine wpAnyU_takes' (i := 0) rfl (by as_aux_lemma => kernel_rfl) (fun _ _ _ _ h => h) HS ?_
          apply Exists.intro
          apply And.intro
          · refine Or.inl (And.intro (by rfl) ?_)
            rintro w s0
            go_simp
            try rfl
          simp only [Act.put, List.setIfInBounds_toArray, List.set_cons_succ, List.set_cons_zero]
          refine wpAnyU_takes' (i := 1) rfl (by as_aux_lemma => kernel_rfl) (fun _ _ _ _ h => h) HS ?_
          apply Exists.intro
          apply And.intro
          · refine Or.inl (And.intro (by rfl) ?_)
            rintro w s0
            go_simp
            try rfl
          simp only [Act.put, List.setIfInBounds_toArray, List.set_cons_succ, List.set_cons_zero]
          refine wpAnyU_takes' (i := 2) rfl (by as_aux_lemma => kernel_rfl) (fun _ _ _ _ h => h) HS ?_
          apply Exists.intro
          apply And.intro
          · refine Or.inl (And.intro (by rfl) ?_)
            rintro w s0
            go_simp
            try rfl
          simp only [Act.put, List.setIfInBounds_toArray, List.set_cons_succ, List.set_cons_zero]
          refine wpAnyU_takes' (i := 3) rfl (by as_aux_lemma => kernel_rfl) (fun _ _ _ _ h => h) HS ?_
          apply Exists.intro
          apply And.intro
          · refine Or.inl (And.intro (by rfl) ?_)
            rintro w s0
            go_simp
            try rfl
          simp only [Act.put, List.setIfInBounds_toArray, List.set_cons_succ, List.set_cons_zero]
          refine wpAnyU_takes' (i := 4) rfl (by as_aux_lemma => kernel_rfl) (fun _ _ _ _ h => h) HS ?_
          apply Exists.intro
          apply And.intro
          · refine Or.inl (And.intro (by rfl) ?_)
            rintro w s0
            go_simp
            try rfl
          simp only [Act.put, List.setIfInBounds_toArray, List.set_cons_succ, List.set_cons_zero]
          refine wpAnyU_takes' (i := 6) rfl (by as_aux_lemma => kernel_rfl) (fun _ _ _ _ h => h) HS ?_
          apply Exists.intro
          apply And.intro
          · refine Or.inl (And.intro (by rfl) ?_)
            rintro w s0
            go_simp
            try rfl
          simp only [Act.put, List.setIfInBounds_toArray, List.set_cons_succ, List.set_cons_zero]
          refine wpAnyU_takes' (i := 9) rfl (by as_aux_lemma => kernel_rfl) (fun _ _ _ _ h => h) HS ?_
          apply Exists.intro
          apply And.intro
          · refine Or.inl (And.intro (by rfl) ?_)
            rintro w s0
            go_simp
            try rfl
          simp only [Act.put, List.setIfInBounds_toArray, List.set_cons_succ, List.set_cons_zero]
          refine wpAnyU_takes' (i := 10) rfl (by as_aux_lemma => kernel_rfl) (fun _ _ _ _ h => h) HS ?_
          apply Exists.intro
          apply And.intro
          · refine Or.inl (And.intro (by rfl) ?_)
            rintro w s0
            go_simp
            try rfl
          simp only [Act.put, List.setIfInBounds_toArray, List.set_cons_succ, List.set_cons_zero]
          refine wpAnyU_takes' (i := 11) rfl (by as_aux_lemma => kernel_rfl) (fun _ _ _ _ h => h) HS ?_
          apply Exists.intro
          apply And.intro
          · refine Or.inl (And.intro (by rfl) ?_)
            rintro w s0
            go_simp
            try rfl
          simp only [Act.put, List.setIfInBounds_toArray, List.set_cons_succ, List.set_cons_zero]
          refine wpAnyU_takes' (i := 13) rfl (by as_aux_lemma => kernel_rfl) (fun _ _ _ _ h => h) HS ?_
          apply Exists.intro
          apply And.intro
          · refine Or.inl (And.intro (by rfl) ?_)
            rintro w s0
            go_simp
            try rfl
          simp only [Act.put, List.setIfInBounds_toArray, List.set_cons_succ, List.set_cons_zero]
          refine wpAnyT_two2 (i := 5) (j := 12) (by as_aux_lemma => kernel_rfl) rfl rfl ?_ ?_
          · go_wp2_with fail
            try refine And.intro trivial ?_
            refine wpAnyU_take' (i := 7) (v := .int .i64 lm) rfl (by as_aux_lemma => kernel_rfl) (fun _ _ _ h => h) HS (Or.inl ⟨by rfl, ?_⟩) ?_
            · rintro w s0
              go_simp
              exact HNL.out
            simp only [Act.put, List.setIfInBounds_toArray, List.set_cons_succ, List.set_cons_zero]
            refine wpAnyU_take' (i := 8) (v := .int .i64 nl) rfl (by as_aux_lemma => kernel_rfl) (fun _ _ _ h => h) HS (Or.inl ⟨by rfl, ?_⟩) ?_
            · rintro w s0
              go_simp
              exact HFL.out
            simp only [Act.put, List.setIfInBounds_toArray, List.set_cons_succ, List.set_cons_zero]
            refine wpAnyT_one' (i := 12) (by as_aux_lemma => kernel_rfl) rfl ?_
            go_wp2_with fail
            try refine And.intro trivial ?_
            refine wpAnyU_take' (i := 14) (v := .int .i64 hm) rfl (by as_aux_lemma => kernel_rfl) (fun _ _ _ h => h) HS (Or.inl ⟨by rfl, ?_⟩) ?_
            · rintro w s0
              go_simp
              exact HNH.out
            simp only [Act.put, List.setIfInBounds_toArray, List.set_cons_succ, List.set_cons_zero]
            refine wpAnyU_take' (i := 15) (v := .int .i64 nh) rfl (by as_aux_lemma => kernel_rfl) (fun _ _ _ h => h) HS (Or.inl ⟨by rfl, ?_⟩) ?_
            · rintro w s0
              go_simp
              exact HFH.out
            simp only [Act.put, List.setIfInBounds_toArray, List.set_cons_succ, List.set_cons_zero]
            refine wpAnyU_takes' (i := 16) rfl (by as_aux_lemma => kernel_rfl) (fun _ _ _ _ h => h) HS ?_
            apply Exists.intro
            apply And.intro
            · refine Or.inl (And.intro (by rfl) ?_)
              rintro w s0
              go_simp
              try rfl
            simp only [Act.put, List.setIfInBounds_toArray, List.set_cons_succ, List.set_cons_zero]
            refine wpAnyU_takes' (i := 17) rfl (by as_aux_lemma => kernel_rfl) (fun _ _ _ _ h => h) HS ?_
            apply Exists.intro
            apply And.intro
            · refine Or.inl (And.intro (by rfl) ?_)
              rintro w s0
              go_simp
              try rfl
            simp only [Act.put, List.setIfInBounds_toArray, List.set_cons_succ, List.set_cons_zero]
            refine wpAnyT_one' (i := 18) (by as_aux_lemma => kernel_rfl) rfl ?_
            go_wp2_with fail
            try refine And.intro trivial ?_
            refine wpAnyU_takes' (i := 19) rfl (by as_aux_lemma => kernel_rfl) (fun _ _ _ _ h => h) HS ?_
            apply Exists.intro
            apply And.intro
            · refine Or.inl (And.intro (by rfl) ?_)
              rintro w s0
              go_simp
              try rfl
            simp only [Act.put, List.setIfInBounds_toArray, List.set_cons_succ, List.set_cons_zero]
            refine wpAnyU_takes' (i := 20) rfl (by as_aux_lemma => kernel_rfl) (fun _ _ _ _ h => h) HS ?_
            apply Exists.intro
            apply And.intro
            · refine Or.inl (And.intro (by rfl) ?_)
              rintro w s0
              go_simp
              try rfl
            simp only [Act.put, List.setIfInBounds_toArray, List.set_cons_succ, List.set_cons_zero]
            refine wpAnyT_close (by as_aux_lemma => kernel_rfl) ?_
            refine wpAny_part (k := 21) (n := 1) (f := 0) rfl rfl (by as_aux_lemma => kernel_rfl) ?_
            simp only [List.drop_succ_cons, List.drop_zero, List.take_succ_cons, List.take_zero]
            have q3 : (z.setCell ⟨g1, j * 3 + 1, none⟩ (.int .i64 nl)).cell? ⟨g1, j * 3 + 1 + 1, none⟩ = some (.int .i64 hh) := by
              rw [World.cell?_setCell_other _ _ _ _ (fun h => by have := congrArg Addr.off h; simp at this)]
              exact HQ2.out
            go_wp2_with fail
            refine wpAny_done (by as_aux_lemma => kernel_rfl) ?_
            go_wp2_with fail
            go_meet
            exact ⟨rfl, ((HKL.out.grow gz).far2 (by show w.heap.size ≠ g1; omega) _).far2 (by show w.heap.size ≠ g1; omega) _, _, _, _, _, (HXB.out.grow gz).setc hjl nl nh, wider_c' l hjl ⟨rfl, HW1.out, HW2.out⟩, ((hg6.trans gz).setCell (p := ⟨g1, j * 3 + 1, none⟩) (by show w.heap.size ≤ g1; omega) _).setCell (p := ⟨g1, j * 3 + 1 + 1, none⟩) (by show w.heap.size ≤ g1; omega) _⟩
          · go_wp2_with fail
            try refine And.intro trivial ?_
            refine wpAnyU_take' (i := 14) (v := .int .i64 hm) rfl (by as_aux_lemma => kernel_rfl) (fun _ _ _ h => h) HS (Or.inl ⟨by rfl, ?_⟩) ?_
            · rintro w s0
              go_simp
              exact HNH.out
            simp only [Act.put, List.setIfInBounds_toArray, List.set_cons_succ, List.set_cons_zero]
            refine wpAnyU_take' (i := 15) (v := .int .i64 nh) rfl (by as_aux_lemma => kernel_rfl) (fun _ _ _ h => h) HS (Or.inl ⟨by rfl, ?_⟩) ?_
            · rintro w s0
              go_simp
              exact HFH.out
            simp only [Act.put, List.setIfInBounds_toArray, List.set_cons_succ, List.set_cons_zero]
            refine wpAnyT_one' (i := 5) (by as_aux_lemma => kernel_rfl) rfl ?_
            go_wp2_with fail
            try refine And.intro trivial ?_
            refine wpAnyU_take' (i := 7) (v := .int .i64 lm) rfl (by as_aux_lemma => kernel_rfl) (fun _ _ _ h => h) HS (Or.inl ⟨by rfl, ?_⟩) ?_
            · rintro w s0
              go_simp
              exact HNL.out
            simp only [Act.put, List.setIfInBounds_toArray, List.set_cons_succ, List.set_cons_zero]
            refine wpAnyU_take' (i := 8) (v := .int .i64 nl) rfl (by as_aux_lemma => kernel_rfl) (fun _ _ _ h => h) HS (Or.inl ⟨by rfl, ?_⟩) ?_
            · rintro w s0
              go_simp
              exact HFL.out
            simp only [Act.put, List.setIfInBounds_toArray, List.set_cons_succ, List.set_cons_zero]
            refine wpAnyU_takes' (i := 16) rfl (by as_aux_lemma => kernel_rfl) (fun _ _ _ _ h => h) HS ?_
            apply Exists.intro
            apply And.intro
            · refine Or.inl (And.intro (by rfl) ?_)
              rintro w s0
              go_simp
              try rfl
            simp only [Act.put, List.setIfInBounds_toArray, List.set_cons_succ, List.set_cons_zero]
            refine wpAnyU_takes' (i := 17) rfl (by as_aux_lemma => kernel_rfl) (fun _ _ _ _ h => h) HS ?_
            apply Exists.intro
            apply And.intro
            · refine Or.inl (And.intro (by rfl) ?_)
              rintro w s0
              go_simp
              try rfl
            simp only [Act.put, List.setIfInBounds_toArray, List.set_cons_succ, List.set_cons_zero]
            refine wpAnyT_one' (i := 18) (by as_aux_lemma => kernel_rfl) rfl ?_
            go_wp2_with fail
            try refine And.intro trivial ?_
            refine wpAnyU_takes' (i := 19) rfl (by as_aux_lemma => kernel_rfl) (fun _ _ _ _ h => h) HS ?_
            apply Exists.intro
            apply And.intro
            · refine Or.inl (And.intro (by rfl) ?_)
              rintro w s0
              go_simp
              try rfl
            simp only [Act.put, List.setIfInBounds_toArray, List.set_cons_succ, List.set_cons_zero]
            refine wpAnyU_takes' (i := 20) rfl (by as_aux_lemma => kernel_rfl) (fun _ _ _ _ h => h) HS ?_
            apply Exists.intro
            apply And.intro
            · refine Or.inl (And.intro (by rfl) ?_)
              rintro w s0
              go_simp
              try rfl
            simp only [Act.put, List.setIfInBounds_toArray, List.set_cons_succ, List.set_cons_zero]
            refine wpAnyT_close (by as_aux_lemma => kernel_rfl) ?_
            refine wpAny_part (k := 21) (n := 1) (f := 0) rfl rfl (by as_aux_lemma => kernel_rfl) ?_
            simp only [List.drop_succ_cons, List.drop_zero, List.take_succ_cons, List.take_zero]
            have q3 : (z.setCell ⟨g1, j * 3 + 1, none⟩ (.int .i64 nl)).cell? ⟨g1, j * 3 + 1 + 1, none⟩ = some (.int .i64 hh) := by
              rw [World.cell?_setCell_other _ _ _ _ (fun h => by have := congrArg Addr.off h; simp at this)]
              exact HQ2.out
            go_wp2_with fail
            refine wpAny_done (by as_aux_lemma => kernel_rfl) ?_
            go_wp2_with fail
            go_meet
            exact ⟨rfl, ((HKL.out.grow gz).far2 (by show w.heap.size ≠ g1; omega) _).far2 (by show w.heap.size ≠ g1; omega) _, _, _, _, _, (HXB.out.grow gz).setc hjl nl nh, wider_c' l hjl ⟨rfl, HW1.out, HW2.out⟩, ((hg6.trans gz).setCell (p := ⟨g1, j * 3 + 1, none⟩) (by show w.heap.size ≤ g1; omega) _).setCell (p := ⟨g1, j * 3 + 1 + 1, none⟩) (by show w.heap.size ≤ g1; omega) _⟩
    case rest =>
      obtain ⟨rfl, hlb, lo', hi', gs', cs', hxb, hwi, hg7⟩ := hcut
      have HLEN := Lib.hid (fun (hV : Valid l) (hX : Valid ⟨lo', hi', gs', cs'⟩) => hwi.len hV hX)
      have HCL := Lib.hid (fun (hV : Valid l) (hX : Valid ⟨lo', hi', gs', cs'⟩) h => hwi.closer hV hX h)
      have HXX := Lib.hid hxb.led
      have hbx2 := hxb.box
      clear HXB hwi HY2 HY3
      obtain ⟨x, hx⟩ : ∃ x : Led, (⟨lo', hi', gs', cs'⟩ : Led) = x := ⟨_, rfl⟩
      rw [hx] at HXX HLEN HCL hbx2
      have HK := Lib.hid (show LBox wc w.heap.size l A C cA cC ∧ LBox wc bx x A1 C1 c1 c2 from ⟨hlb, hbx2⟩)
      clear hx hlb hxb hbx2 hg6 HKL
      have hw1 : IntKind.i64.wrap s = s := IntWalk.i64_in _ (by omega)
      have htm : s.tmod 10000 = s % 10000 := Int.tmod_eq_emod_of_nonneg hs2.1
      have hqq := mod_bd (m := s) (s := 10000) (by omega)
      have hw2 : IntKind.i64.wrap (s % 10000) = s % 10000 := IntWalk.i64_in _ (by omega)
      have HW1 := Lib.hid hw1
      have HTM := Lib.hid htm
      have HW2 := Lib.hid hw2
      clear hw1 htm hw2
      obtain ⟨⟨s0, s1, s2, s3⟩, t0, t1, t2, t3⟩ := HK.out
      go_wp2_with fail
      refine (ready_c (HXX.out)).mono ?_
      cases hr : readyB x with
      | false =>
        rintro e w2 ⟨rfl, hb2⟩
        clear hr
        have g2 := hg7.trans hb2
        go_wp2_with fail
        refine (awake_c w2).mono ?_
        rintro e w99 ⟨rfl, hb99⟩
        go_wp2_with fail
        go_ret
        exact ⟨rfl, (g2).trans hb99⟩
      | true =>
        obtain ⟨hgx, hcx, hfx, hX⟩ := readyB_iff hr
        rintro e w2 ⟨rfl, hb2⟩
        have HVX := Lib.hid hX
        have HFX := Lib.hid hfx
        clear hr hX hfx
        -- both boxes and the second ledger kept over hb2; growth hg7 renewed to g2
        replace HK := Lib.hid (show LBox _ _ _ _ _ _ _ ∧ LBox _ _ _ _ _ _ _ from ⟨HK.out.1.grow (hb2), HK.out.2.grow (hb2)⟩)
        replace HXX := Lib.hid (HXX.out.grow (hb2))
        have g2 := (hg7).trans (hb2)
        clear s0 s1 s2 s3 t0 t1 t2 t3
        obtain ⟨⟨s0, s1, s2, s3⟩, t0, t1, t2, t3⟩ := HK.out
        -- Ledger of l A C cA cC (its LedR HL.out.grow g2 at the world w2), to w3 by hb3; lengths by omega; HX: the new LedR
        go_wp2_with fail
        refine (Ledger_c l A C cA cC w2 (HL.out.grow g2) (by omega) (by omega)).mono ?_
        rintro e w3 ⟨⟨AX, CX, cAX, cCX, rfl, hLX, hcA, hcC⟩, hb3⟩
        have HX := Lib.hid hLX
        clear hLX
        go_wp2_with fail
        refine (Leave_c l AX CX cAX cCX w3 HX.out hg hc (fun h => leaveF_some h)).mono ?_
        rw [HF.out]
        rintro e w4 ⟨⟨v4, rfl, ho4⟩, hb4⟩
        obtain ⟨A4, c4, rfl, -, -⟩ := ho4.row
        have hb34 := hb3.trans hb4
        -- both boxes and the second ledger kept over hb34; growth g2 renewed to g4
        replace HK := Lib.hid (show LBox _ _ _ _ _ _ _ ∧ LBox _ _ _ _ _ _ _ from ⟨HK.out.1.grow (hb34), HK.out.2.grow (hb34)⟩)
        replace HXX := Lib.hid (HXX.out.grow (hb34))
        have g4 := (g2).trans (hb34)
        clear s0 s1 s2 s3 t0 t1 t2 t3
        obtain ⟨⟨s0, s1, s2, s3⟩, t0, t1, t2, t3⟩ := HK.out
        clear HX hcA hcC hb2 hb3 hb4 hb34 ho4
        -- Ledger of x A1 C1 c1 c2 (its LedR HXX.out at the world w4), to w5 by hb5; lengths by omega; HX: the new LedR
        go_wp2_with fail
        refine (Ledger_c x A1 C1 c1 c2 w4 (HXX.out) (by omega) (by omega)).mono ?_
        rintro e w5 ⟨⟨AX, CX, cAX, cCX, rfl, hLX, hcA, hcC⟩, hb5⟩
        have HX := Lib.hid hLX
        clear hLX
        go_wp2_with fail
        refine (Leave_c x AX CX cAX cCX w5 HX.out hgx hcx (fun h => leaveF_some h)).mono ?_
        rw [HFX.out]
        rintro e w6 ⟨⟨v6, rfl, ho6⟩, hb6⟩
        obtain ⟨A7, c7, rfl, -, -⟩ := ho6.row
        have hb56 := hb5.trans hb6
        -- both boxes and the second ledger kept over hb56; growth g4 renewed to g6
        replace HK := Lib.hid (show LBox _ _ _ _ _ _ _ ∧ LBox _ _ _ _ _ _ _ from ⟨HK.out.1.grow (hb56), HK.out.2.grow (hb56)⟩)
        replace HXX := Lib.hid (HXX.out.grow (hb56))
        have g6 := (g4).trans (hb56)
        clear s0 s1 s2 s3 t0 t1 t2 t3
        obtain ⟨⟨s0, s1, s2, s3⟩, t0, t1, t2, t3⟩ := HK.out
        clear HX hcA hcC hb5 hb6 hb56 ho6 g2
        have hl1 := HLEN.out HV.out HVX.out
        have z1 : ¬ ((leaveL l).length : Int) < (leaveL x).length := by omega
        by_cases hp : leaveL l = []
        · have hcl := HCL.out HV.out HVX.out hp
          have hz0 : (leaveL l).length = 0 := by rw [hp]; rfl
          have z3 : ¬ (0 : Int) < ((leaveL l).length : Int) := by omega
          have z4 : ¬ 0 < (leaveL l).length := by omega
          have hcall := closer_c (cA := cA) (cC := cC) (cB := c1) (cD := c2) (w := w6) (sum := s % 10000) hcl (HL.out.grow g6) (HXX.out) (by omega) (by omega)
          have hw1 := HW1.out
          have htm := HTM.out
          have hw2 := HW2.out
          generalize hlx : (leaveL x).length = nx at *
          generalize hll : (leaveL l).length = nl at *
          clear hp hcl hz0 hlx hll hl1
          go_wp2_with fail
          refine hcall.mono ?_
          rintro e w7 ⟨rfl, hb7⟩
          have g7 := g6.trans hb7
          clear hcall hw1 htm hw2
          go_wp2_with fail
          refine (awake_c w7).mono ?_
          rintro e w99 ⟨rfl, hb99⟩
          go_wp2_with fail
          go_ret
          exact ⟨rfl, (g7).trans hb99⟩
        · have hz0 : 0 < (leaveL l).length := List.length_pos_iff.2 hp
          have z3 : (0 : Int) < ((leaveL l).length : Int) := by omega
          generalize hlx : (leaveL x).length = nx at *
          generalize hll : (leaveL l).length = nl at *
          clear hp hlx hll hl1
          go_wp2_with fail
          refine (awake_c w6).mono ?_
          rintro e w99 ⟨rfl, hb99⟩
          go_wp2_with fail
          go_ret
          exact ⟨rfl, (g6).trans hb99⟩
end Go.Proofs.Ytogdhkecpjndlaa.C
