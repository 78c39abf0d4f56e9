/- The law GrowerAdvance, walked. -/
import Derived.Test.YtogdhkecpjndlaaQ10
import Derived.Test.YtogdhkecpjndlaaW10
import Derived.Test.YtogdhkecpjndlaaW14
import Derived.Test.YtogdhkecpjndlaaA3
set_option linter.unusedSimpArgs false
set_option linter.unusedVariables false
namespace Go.Proofs.Ytogdhkecpjndlaa.C
open Go.RowKit
set_option maxRecDepth 100000



def mixC (cs : List T3) (g n : Int) (i : Nat) : List T3 := (cs.take i).map (moveC g n) ++ cs.drop i
theorem mixC_len (cs : List T3) (g n : Int) (i : Nat) : (mixC cs g n i).length = cs.length := by simp [mixC]; omega
theorem mixC_zero (cs : List T3) (g n : Int) : mixC cs g n 0 = cs := by simp [mixC]
theorem mixC_all (cs : List T3) (g n : Int) : mixC cs g n cs.length = cs.map (moveC g n) := by simp [mixC]
theorem mixC_pre {cs : List T3} {g n : Int} {i : Nat} (h : i < cs.length) : ((cs.take i).map (moveC g n)).length = i := by simp; omega
theorem mixC_at {cs : List T3} {g n : Int} {i : Nat} (h : i < cs.length) (h2 : i < (mixC cs g n i).length) : (mixC cs g n i)[i] = cs[i] := by
  have hl := mixC_pre (g := g) (n := n) h
  unfold mixC at h2 ⊢
  rw [List.getElem_append_right (by omega)]
  simp [show i - min i cs.length = 0 by omega]
theorem mixC_set {cs : List T3} {g n : Int} {i : Nat} (h : i < cs.length) : (mixC cs g n i).set i (moveC g n cs[i]) = mixC cs g n (i + 1) := by
  have hl := mixC_pre (g := g) (n := n) h
  unfold mixC
  rw [List.set_append_right _ _ (by omega), hl, Nat.sub_self, List.drop_eq_getElem_cons h, List.set_cons_zero, List.take_succ_eq_append_getElem h, List.map_append, List.append_assoc]
  rfl
theorem mixC_keep {cs : List T3} {g n : Int} {i : Nat} (h : i < cs.length) (hm : moveC g n cs[i] = cs[i]) : mixC cs g n (i + 1) = mixC cs g n i := by
  unfold mixC
  rw [List.take_succ_eq_append_getElem h, List.map_append, List.append_assoc, List.drop_eq_getElem_cons h]
  show _ ++ (moveC g n cs[i] :: _) = _
  rw [hm]
  rfl
theorem moveG_eq {l : Led} {g : Nat} {n : Int} (hg : g < l.gs.length) : moveG l g n = l.gs.set g ⟨l.gs[g].a + n, l.gs[g].lo, l.gs[g].hi⟩ := by
  unfold moveG
  rw [Led.adv_eq hg]
  simp [List.getD, hg]
theorem due_bd {l : Led} (h : askErr l true = 0) (k : Nat) : -999 ≤ (dueB l k).1 ∧ (dueB l k).1 ≤ 270 ∧ -999 ≤ (dueB l k).2 ∧ (dueB l k).2 ≤ 270 := by
  obtain ⟨⟨c1, h1, e1⟩, ⟨c2, h2, e2⟩, -⟩ := due_ends h k
  obtain ⟨hV, hp, -, -, hK, -⟩ := truth_facts h
  have a := owed_bd hV (truth_ok hV h1) k
  have b := owed_bd hV (truth_ok hV h2) k
  omega

set_option maxHeartbeats 16000000 in
theorem GrowerAdvance_c {l : Led} {A C : Option Addr} {cA cC : Nat} {a b : Int} {w : World} (hL : LedR w l A C) (ha : (Lit.int .u8 a).wf = true) (hb : (Lit.int .u8 b).wf = true) :
    Calls Try.prog 17 #[ledV l A C cA cC, .int .u8 a, .int .u8 b] w fun e w' => e = .returned (.bool true) ∧ G w w' := by
  have HL := Lib.hid hL
  have ha2 : 0 ≤ a ∧ a ≤ 255 := by simpa [Lit.wf, IntKind.min, IntKind.max, IntKind.signed, IntKind.bits] using ha
  have hb2 : 0 ≤ b ∧ b ≤ 255 := by simpa [Lit.wf, IntKind.min, IntKind.max, IntKind.signed, IntKind.bits] using hb
  clear hL ha hb
  obtain ⟨t, rfl⟩ : ∃ t : Nat, a = t := ⟨a.toNat, by omega⟩
  cases hr : readyB l
  · go_enter Try.func17, Try.ntmps17
    go_wp2_with fail
    have hB : G w (w.alloc (.cells #[.int .i64 l.lo, .int .i64 l.hi, .slice A l.gs.length cA, .slice C l.cs.length cC] 27)) := (G.refl _).alloc _
    generalize w.alloc _ = W at *
    refine (ready_c (HL.out.grow hB)).mono ?_
    rw [hr]
    rintro e w1 ⟨rfl, hb1⟩
    clear hr
    go_wp2_with fail
    refine (awake_c w1).mono ?_
    rintro e w2 ⟨rfl, hb2⟩
    go_wp2_with fail
    go_ret
    exact ⟨rfl, hB.trans (hb1.trans hb2)⟩
  obtain ⟨hg, hc, hf, hV⟩ := readyB_iff hr
  have HV := Lib.hid hV
  have HF := Lib.hid hf
  have hng := hV.ng
  have hnc := hV.nc
  clear hf hV
  go_enter Try.func17, Try.ntmps17
  go_wp2_with fail
  have hB : G w (w.alloc (.cells #[.int .i64 l.lo, .int .i64 l.hi, .slice A l.gs.length cA, .slice C l.cs.length cC] 27)) := (G.refl _).alloc _
  have k0 := LBox.one (w := w) (l := l) (A := A) (C := C) (cA := cA) (cC := cC)
  generalize w.alloc _ = W0 at *
  refine (ready_c (HL.out.grow hB)).mono ?_
  rw [hr]
  rintro e W ⟨rfl, hb1⟩
  have HK := Lib.hid (k0.grow hb1)
  replace hB := hB.trans hb1
  clear hr hb1 k0
  obtain ⟨s0, s1, s2, s3⟩ := HK.out
  by_cases hn0 : l.gs.length = 0
  · have hz : (((l.gs.length : Nat) : Int) == 0) = true := by simp [hn0]
    clear hn0
    go_wp2_with fail
    refine (awake_c W).mono ?_
    rintro e w99 ⟨rfl, hb99⟩
    go_wp2_with fail
    go_ret
    exact ⟨rfl, (hB).trans hb99⟩
  have hz : (((l.gs.length : Nat) : Int) == 0) = false := beq_eq_false_iff_ne.2 (by omega)
  have hnz : ¬ ((l.gs.length : Int) = 0) := by omega
  obtain ⟨g, hgg⟩ : ∃ g : Nat, t % l.gs.length = g := ⟨_, rfl⟩
  have htm := tmod_nat hgg
  have hgl : g < l.gs.length := by rw [← hgg]; exact Nat.mod_lt _ (by omega)
  have hg4 : g < 4 := by omega
  obtain ⟨n, hn⟩ : ∃ n, b % 20 = n := ⟨_, rfl⟩
  have hn2 : 0 ≤ n ∧ n ≤ 19 := by omega
  have e1 : b.tmod 20 = n := by rw [Int.tmod_eq_emod_of_nonneg hb2.1, hn]
  have hw1 : IntKind.i64.wrap (t : Int) = t := IntWalk.i64_in _ (by omega)
  have hw2 : IntKind.i64.wrap (g : Int) = g := IntWalk.i64_in _ (by omega)
  have hw3 : IntKind.i64.wrap b = b := IntWalk.i64_in _ (by omega)
  have hw4 : IntKind.i64.wrap n = n := IntWalk.i64_in _ (by omega)
  clear hgg hn
  go_upto_region 5 with fail
  clear htm e1 hw1 hw2 hw3 hw4 hz
  have HNX := Lib.hid (Blk.new W (cells4 l A C cA cC) 27)
  have gx := (G.refl W).alloc (.cells (cells4 l A C cA cC) 27)
  have hwx := cell_lt s0
  have hxl := HNX.out.lt
  replace HK := Lib.hid (HK.out.grow gx)
  replace hB := hB.trans gx
  generalize hbx : W.heap.size = bx at *
  generalize hV : W.alloc _ = V at *
  have hbw : w.heap.size < bx := by omega
  clear hbx hV gx hwx s0 s1 s2 s3
  obtain ⟨W, rfl⟩ : ∃ W' : World, W' = V := ⟨_, rfl⟩
  -- x's lists copied: the region ahead; x's box bx (below W), l's box; to wc
  go_cut [9] (fun v9 wc => v9 = .pointer (some ⟨bx, 0, none⟩) ∧ LBox wc w.heap.size l A C cA cC ∧ ∃ A1 c1 C1 c2, XB wc W.heap.size bx l.lo l.hi l.gs.length l.cs.length l.gs l.cs A1 C1 c1 c2 ∧ G w wc)
  case first =>
    refine wp_region_A (by as_aux_lemma => kernel_rfl) ?_
    obtain ⟨z, hz⟩ : ∃ z : World, z = { W with drawn := W.drawn + 1 } := ⟨_, rfl⟩
    rw [← hz]
    have gz : G W z := by rw [hz]; exact (G.refl _).drew
    clear hz
    have HSG := Lib.hid (fun (w' : World) (h : G z w') => HK.out.grow (gz.trans h))
    have HS := HSG.out z (G.refl _)
    refine wpAny_fork (fun w' => LBox w' w.heap.size l A C cA cC) 11 ?_
    refine wpAnyU_takes' (i := 1) rfl (by as_aux_lemma => kernel_rfl) (fun _ _ _ _ h => h) HS ?_
    apply Exists.intro
    apply And.intro
    · refine Or.inl (And.intro (by rfl) ?_)
      rintro w ⟨s0, s1, s2, s3⟩
      go_simp
      try rfl
    simp only [Act.put, List.setIfInBounds_toArray, List.set_cons_succ, List.set_cons_zero]
    refine wpAnyU_takes' (i := 2) rfl (by as_aux_lemma => kernel_rfl) (fun _ _ _ _ h => h) HS ?_
    apply Exists.intro
    apply And.intro
    · refine Or.inl (And.intro (by rfl) ?_)
      rintro w ⟨s0, s1, s2, s3⟩
      go_simp
      try rfl
    simp only [Act.put, List.setIfInBounds_toArray, List.set_cons_succ, List.set_cons_zero]
    refine wpAnyU_takes' (i := 5) rfl (by as_aux_lemma => kernel_rfl) (fun _ _ _ _ h => h) HS ?_
    apply Exists.intro
    apply And.intro
    · refine Or.inl (And.intro (by rfl) ?_)
      rintro w ⟨s0, s1, s2, s3⟩
      go_simp
      try rfl
    simp only [Act.put, List.setIfInBounds_toArray, List.set_cons_succ, List.set_cons_zero]
    refine wpAnyU_takes' (i := 6) rfl (by as_aux_lemma => kernel_rfl) (fun _ _ _ _ h => h) HS ?_
    apply Exists.intro
    apply And.intro
    · refine Or.inl (And.intro (by rfl) ?_)
      rintro w ⟨s0, s1, s2, s3⟩
      go_simp
      try rfl
    simp only [Act.put, List.setIfInBounds_toArray, List.set_cons_succ, List.set_cons_zero]
    refine wpAnyT_two2 (i := 0) (j := 4) (by as_aux_lemma => kernel_rfl) rfl rfl ?_ ?_
    · -- the growers' empty list e1: from z (grown from z by G.refl z) to w1, by g1
      go_wp2_with fail
      have g1 := (G.refl z).alloc (.cells #[] 86)
      have HE1 := Lib.hid (Blk.new z #[] 86)
      have gm := (G.refl z).alloc (.cells #[] 86)
      generalize hme : z.heap.size = e1 at *
      generalize hmw : z.alloc _ = w1 at *
      have hle1 : z.heap.size ≤ e1 := by have h1 := (G.refl z).size; omega
      have hma1 : z.heap.size ≤ e1 := by omega
      have hma2 : e1 ≤ z.heap.size := by omega
      clear hme hmw
      refine ⟨HSG.out w1 (g1), ?_⟩
      refine wpAnyT_two2 (i := 3) (j := 4) (by as_aux_lemma => kernel_rfl) rfl rfl ?_ ?_
      · -- the growers copied: from w1 (grown by g1) to w2, by g2
        go_wp2_with (at_builtin; refine app_3w 24 86 und24 info86 e1 rfl _ _ rfl _ [] l.gs rfl A l.gs.length cA rfl rfl (HL.out.g.grow (hB.trans (gz.trans (g1)))) (own_of_empty2 HE1.out) (by have := HE1.out.lt; omega) (by simp; omega) ?_; intro v3 w2 o1 o2 o3)
        have g2 := (g1).grown o2 (fun q hq => by have e2 : some e1 = some q := hq; injection e2; omega)
        have HGG := Lib.hid (grown_row2 o2)
        have HGO : Hid (v3.ownBlock = some e1 ∨ v3.ownBlock = some w1.heap.size) := o3
        obtain ⟨AG, cG, rfl, -, -⟩ := o1.row
        have HOG : Hid (Own3 86 z.heap.size w2 (.slice AG l.gs.length cG) l.gs) := own_lower o1 hle1
        clear o1 o2 o3
        simp only [List.nil_append] at *
        go_wp2_with fail
        refine ⟨HSG.out w2 (g2), ?_⟩
        have HS := HSG.out w2 (g2)
        refine wpAnyU_takes' (i := 8) rfl (by as_aux_lemma => kernel_rfl) (fun _ _ _ _ h => h) HS ?_
        apply Exists.intro
        apply And.intro
        · refine Or.inl (And.intro (by rfl) ?_)
          rintro w ⟨s0, s1, s2, s3⟩
          go_simp
          try rfl
        simp only [Act.put, List.setIfInBounds_toArray, List.set_cons_succ, List.set_cons_zero]
        clear HS
        refine wpAnyT_one' (i := 4) (by as_aux_lemma => kernel_rfl) rfl ?_
        go_wp2_with fail
        have g3 := (g2).alloc (.cells #[] 97)
        have HE2 := Lib.hid (Blk.new w2 #[] 97)
        have gm := (G.refl w2).alloc (.cells #[] 97)
        generalize hme : w2.heap.size = e2 at *
        generalize hmw : w2.alloc _ = w3 at *
        have hle2 : z.heap.size ≤ e2 := by have h1 := (g2).size; omega
        have hmb1 : w2.heap.size ≤ e2 := by omega
        have hmb2 : e2 ≤ w2.heap.size := by omega
        clear hme hmw
        refine ⟨HSG.out w3 (g3), ?_⟩
        have HNE := Lib.hid (fun q (hq : Value.ownBlock (.slice AG l.gs.length cG) = some q) => (show q ≠ e2 by have := own_lt HOG.out q hq; omega))
        replace HOG : Hid (Own3 86 z.heap.size w3 (.slice AG l.gs.length cG) l.gs) := own_grow HOG.out gm
        refine wpAnyT_one' (i := 7) (by as_aux_lemma => kernel_rfl) rfl ?_
        -- the claims copied: from w3 (grown by g3) to the end; HNE: the growers' block is not e2
        go_wp2_with (at_builtin; refine app_3w 25 97 und25 info97' e2 rfl _ _ rfl _ [] l.cs rfl C l.cs.length cC rfl rfl (HL.out.c.grow (hB.trans (gz.trans (g3)))) (own_of_empty2 HE2.out) (by have := HE2.out.lt; omega) (by simp; omega) ?_; intro v4 w4 o1 o2 o3)
        have g4 := (g3).grown o2 (fun q hq => by have e3 : some e2 = some q := hq; injection e3; omega)
        have HOG4 : Hid (Own3 86 z.heap.size w4 (.slice AG l.gs.length cG) l.gs) := own_grownBy HOG.out (grown_row2 o2) (fun q hq e => by injection e with e; exact HNE.out q hq e.symm)
        have HCO : Hid (v4.ownBlock = some e2 ∨ v4.ownBlock = some w3.heap.size) := o3
        have HGL := Lib.hid (fun q (hq : Value.ownBlock (.slice AG l.gs.length cG) = some q) => own_lt HOG.out q hq)
        obtain ⟨AC, cc2, rfl, -, -⟩ := o1.row
        have HOC : Hid (Own3 97 z.heap.size w4 (.slice AC l.cs.length cc2) l.cs) := own_lower o1 hle2
        clear o1 o2 o3
        simp only [List.nil_append] at *
        go_wp2_with fail
        refine ⟨HSG.out w4 g4, ?_⟩
        refine wpAnyT_one' (i := 9) (by as_aux_lemma => kernel_rfl) rfl ?_
        have nb := HNX.out.grow (gz.trans g4)
        have y2 := nb.cell 2 (v := .slice A l.gs.length cA) rfl
        have z2 := nb.frozen 2
        go_wp2_with fail
        refine ⟨(HSG.out w4 g4).far2 (by show w.heap.size ≠ bx; omega) _, ?_⟩
        refine wpAnyT_one' (i := 10) (by as_aux_lemma => kernel_rfl) rfl ?_
        go_wp2_with fail
        refine ⟨(HSG.out w4 g4).far2 (by show w.heap.size ≠ bx; omega) _, ?_⟩
        refine wpAnyT_close (by as_aux_lemma => kernel_rfl) ?_
        refine wpAny_part (k := 11) (n := 1) (f := 0) rfl rfl (by as_aux_lemma => kernel_rfl) ?_
        simp only [List.drop_succ_cons, List.drop_zero, List.take_succ_cons, List.take_zero]
        have nb2 := nb.set 2 (.slice AG l.gs.length cG)
        have y3 := nb2.cell 3 (v := .slice C l.cs.length cC) rfl
        have z3 := nb2.frozen 3
        go_wp2_with fail
        refine wpAny_done (by as_aux_lemma => kernel_rfl) ?_
        go_wp2_with fail
        go_meet
        have nb3 := nb2.set 3 (.slice AC l.cs.length cc2)
        have hbz : bx < z.heap.size := by have := gz.size; omega
        refine ⟨rfl, ((HSG.out w4 g4).far2 (by show w.heap.size ≠ bx; omega) _).far2 (by show w.heap.size ≠ bx; omega) _, AG, cG, AC, cc2, ⟨hxl, rfl, rfl, nb3, ?_, ?_, ?_⟩, ((hB.trans (gz.trans g4)).setCell (p := ⟨bx, 2, none⟩) (by show w.heap.size ≤ bx; omega) _).setCell (p := ⟨bx, 3, none⟩) (by show w.heap.size ≤ bx; omega) _⟩
        · exact own_lower (own_far (own_far HOG4.out (fun q hq => by have := own_base HOG4.out q hq; show q ≠ bx; omega) _) (fun q hq => by have := own_base HOG4.out q hq; show q ≠ bx; omega) _) gz.size
        · exact own_lower (own_far (own_far HOC.out (fun q hq => by have := own_base HOC.out q hq; show q ≠ bx; omega) _) (fun q hq => by have := own_base HOC.out q hq; show q ≠ bx; omega) _) gz.size
        · intro q hq hc
          have h1 := HGL.out q hq
          rcases HCO.out with h2 | h2
          · rw [hc] at h2; injection h2 with h2; exact HNE.out q hq h2
          · rw [hc] at h2; injection h2 with h2; omega
      · have hE1 := HE1.out.lt
        go_wp2_with fail
        have g2 := (g1).alloc (.cells #[] 97)
        have HE2 := Lib.hid (Blk.new w1 #[] 97)
        have gm := (G.refl w1).alloc (.cells #[] 97)
        generalize hme : w1.heap.size = e2 at *
        generalize hmw : w1.alloc _ = w2 at *
        have hle2 : z.heap.size ≤ e2 := by have h1 := (g1).size; omega
        have hmb1 : w1.heap.size ≤ e2 := by omega
        have hmb2 : e2 ≤ w1.heap.size := by omega
        clear hme hmw
        refine ⟨HSG.out w2 (g2), ?_⟩
        have hE2 := HE2.out.lt
        replace HE1 := Lib.hid (HE1.out.grow gm)
        refine wpAnyT_one' (i := 3) (by as_aux_lemma => kernel_rfl) rfl ?_
        -- the growers copied: from w2 (grown by g2) to w3, by g3
        go_wp2_with (at_builtin; refine app_3w 24 86 und24 info86 e1 rfl _ _ rfl _ [] l.gs rfl A l.gs.length cA rfl rfl (HL.out.g.grow (hB.trans (gz.trans (g2)))) (own_of_empty2 HE1.out) (by have := HE1.out.lt; omega) (by simp; omega) ?_; intro v3 w3 o1 o2 o3)
        have g3 := (g2).grown o2 (fun q hq => by have e2 : some e1 = some q := hq; injection e2; omega)
        have HGG := Lib.hid (grown_row2 o2)
        have HGO : Hid (v3.ownBlock = some e1 ∨ v3.ownBlock = some w2.heap.size) := o3
        obtain ⟨AG, cG, rfl, -, -⟩ := o1.row
        have HOG : Hid (Own3 86 z.heap.size w3 (.slice AG l.gs.length cG) l.gs) := own_lower o1 hle1
        clear o1 o2 o3
        simp only [List.nil_append] at *
        go_wp2_with fail
        refine ⟨HSG.out w3 (g3), ?_⟩
        have HS := HSG.out w3 (g3)
        refine wpAnyU_takes' (i := 8) rfl (by as_aux_lemma => kernel_rfl) (fun _ _ _ _ h => h) HS ?_
        apply Exists.intro
        apply And.intro
        · refine Or.inl (And.intro (by rfl) ?_)
          rintro w ⟨s0, s1, s2, s3⟩
          go_simp
          try rfl
        simp only [Act.put, List.setIfInBounds_toArray, List.set_cons_succ, List.set_cons_zero]
        clear HS
        have HNE := Lib.hid (fun q (hq : Value.ownBlock (.slice AG l.gs.length cG) = some q) => (show q ≠ e2 by
          rcases HGO.out with h | h
          · rw [hq] at h; injection h; omega
          · rw [hq] at h; injection h; omega))
        replace HE2 := Lib.hid (HE2.out.grown HGG.out (fun e => by injection e; omega))
        refine wpAnyT_one' (i := 7) (by as_aux_lemma => kernel_rfl) rfl ?_
        -- the claims copied: from w3 (grown by g3) to the end; HNE: the growers' block is not e2
        go_wp2_with (at_builtin; refine app_3w 25 97 und25 info97' e2 rfl _ _ rfl _ [] l.cs rfl C l.cs.length cC rfl rfl (HL.out.c.grow (hB.trans (gz.trans (g3)))) (own_of_empty2 HE2.out) (by have := HE2.out.lt; omega) (by simp; omega) ?_; intro v4 w4 o1 o2 o3)
        have g4 := (g3).grown o2 (fun q hq => by have e3 : some e2 = some q := hq; injection e3; omega)
        have HOG4 : Hid (Own3 86 z.heap.size w4 (.slice AG l.gs.length cG) l.gs) := own_grownBy HOG.out (grown_row2 o2) (fun q hq e => by injection e with e; exact HNE.out q hq e.symm)
        have HCO : Hid (v4.ownBlock = some e2 ∨ v4.ownBlock = some w3.heap.size) := o3
        have HGL := Lib.hid (fun q (hq : Value.ownBlock (.slice AG l.gs.length cG) = some q) => own_lt HOG.out q hq)
        obtain ⟨AC, cc2, rfl, -, -⟩ := o1.row
        have HOC : Hid (Own3 97 z.heap.size w4 (.slice AC l.cs.length cc2) l.cs) := own_lower o1 hle2
        clear o1 o2 o3
        simp only [List.nil_append] at *
        go_wp2_with fail
        refine ⟨HSG.out w4 g4, ?_⟩
        refine wpAnyT_one' (i := 9) (by as_aux_lemma => kernel_rfl) rfl ?_
        have nb := HNX.out.grow (gz.trans g4)
        have y2 := nb.cell 2 (v := .slice A l.gs.length cA) rfl
        have z2 := nb.frozen 2
        go_wp2_with fail
        refine ⟨(HSG.out w4 g4).far2 (by show w.heap.size ≠ bx; omega) _, ?_⟩
        refine wpAnyT_one' (i := 10) (by as_aux_lemma => kernel_rfl) rfl ?_
        go_wp2_with fail
        refine ⟨(HSG.out w4 g4).far2 (by show w.heap.size ≠ bx; omega) _, ?_⟩
        refine wpAnyT_close (by as_aux_lemma => kernel_rfl) ?_
        refine wpAny_part (k := 11) (n := 1) (f := 0) rfl rfl (by as_aux_lemma => kernel_rfl) ?_
        simp only [List.drop_succ_cons, List.drop_zero, List.take_succ_cons, List.take_zero]
        have nb2 := nb.set 2 (.slice AG l.gs.length cG)
        have y3 := nb2.cell 3 (v := .slice C l.cs.length cC) rfl
        have z3 := nb2.frozen 3
        go_wp2_with fail
        refine wpAny_done (by as_aux_lemma => kernel_rfl) ?_
        go_wp2_with fail
        go_meet
        have nb3 := nb2.set 3 (.slice AC l.cs.length cc2)
        have hbz : bx < z.heap.size := by have := gz.size; omega
        refine ⟨rfl, ((HSG.out w4 g4).far2 (by show w.heap.size ≠ bx; omega) _).far2 (by show w.heap.size ≠ bx; omega) _, AG, cG, AC, cc2, ⟨hxl, rfl, rfl, nb3, ?_, ?_, ?_⟩, ((hB.trans (gz.trans g4)).setCell (p := ⟨bx, 2, none⟩) (by show w.heap.size ≤ bx; omega) _).setCell (p := ⟨bx, 3, none⟩) (by show w.heap.size ≤ bx; omega) _⟩
        · exact own_lower (own_far (own_far HOG4.out (fun q hq => by have := own_base HOG4.out q hq; show q ≠ bx; omega) _) (fun q hq => by have := own_base HOG4.out q hq; show q ≠ bx; omega) _) gz.size
        · exact own_lower (own_far (own_far HOC.out (fun q hq => by have := own_base HOC.out q hq; show q ≠ bx; omega) _) (fun q hq => by have := own_base HOC.out q hq; show q ≠ bx; omega) _) gz.size
        · intro q hq hc
          have h1 := HGL.out q hq
          rcases HCO.out with h2 | h2
          · rw [hc] at h2; injection h2 with h2; exact HNE.out q hq h2
          · rw [hc] at h2; injection h2 with h2; omega
    · go_wp2_with fail
      have g1 := (G.refl z).alloc (.cells #[] 97)
      have HE2 := Lib.hid (Blk.new z #[] 97)
      have gm := (G.refl z).alloc (.cells #[] 97)
      generalize hme : z.heap.size = e2 at *
      generalize hmw : z.alloc _ = w1 at *
      have hle2 : z.heap.size ≤ e2 := by have h1 := (G.refl z).size; omega
      have hmb1 : z.heap.size ≤ e2 := by omega
      have hmb2 : e2 ≤ z.heap.size := by omega
      clear hme hmw
      refine ⟨HSG.out w1 (g1), ?_⟩
      have hE2 := HE2.out.lt
      refine wpAnyT_one' (i := 0) (by as_aux_lemma => kernel_rfl) rfl ?_
      -- the growers' empty list e1: from w1 (grown from z by g1) to w2, by g2
      go_wp2_with fail
      have g2 := (g1).alloc (.cells #[] 86)
      have HE1 := Lib.hid (Blk.new w1 #[] 86)
      have gm := (G.refl w1).alloc (.cells #[] 86)
      generalize hme : w1.heap.size = e1 at *
      generalize hmw : w1.alloc _ = w2 at *
      have hle1 : z.heap.size ≤ e1 := by have h1 := (g1).size; omega
      have hma1 : w1.heap.size ≤ e1 := by omega
      have hma2 : e1 ≤ w1.heap.size := by omega
      clear hme hmw
      refine ⟨HSG.out w2 (g2), ?_⟩
      replace HE2 := Lib.hid (HE2.out.grow gm)
      have hE1 := HE1.out.lt
      refine wpAnyT_one' (i := 3) (by as_aux_lemma => kernel_rfl) rfl ?_
      -- the growers copied: from w2 (grown by g2) to w3, by g3
      go_wp2_with (at_builtin; refine app_3w 24 86 und24 info86 e1 rfl _ _ rfl _ [] l.gs rfl A l.gs.length cA rfl rfl (HL.out.g.grow (hB.trans (gz.trans (g2)))) (own_of_empty2 HE1.out) (by have := HE1.out.lt; omega) (by simp; omega) ?_; intro v3 w3 o1 o2 o3)
      have g3 := (g2).grown o2 (fun q hq => by have e2 : some e1 = some q := hq; injection e2; omega)
      have HGG := Lib.hid (grown_row2 o2)
      have HGO : Hid (v3.ownBlock = some e1 ∨ v3.ownBlock = some w2.heap.size) := o3
      obtain ⟨AG, cG, rfl, -, -⟩ := o1.row
      have HOG : Hid (Own3 86 z.heap.size w3 (.slice AG l.gs.length cG) l.gs) := own_lower o1 hle1
      clear o1 o2 o3
      simp only [List.nil_append] at *
      go_wp2_with fail
      refine ⟨HSG.out w3 (g3), ?_⟩
      have HS := HSG.out w3 (g3)
      refine wpAnyU_takes' (i := 8) rfl (by as_aux_lemma => kernel_rfl) (fun _ _ _ _ h => h) HS ?_
      apply Exists.intro
      apply And.intro
      · refine Or.inl (And.intro (by rfl) ?_)
        rintro w ⟨s0, s1, s2, s3⟩
        go_simp
        try rfl
      simp only [Act.put, List.setIfInBounds_toArray, List.set_cons_succ, List.set_cons_zero]
      clear HS
      have HNE := Lib.hid (fun q (hq : Value.ownBlock (.slice AG l.gs.length cG) = some q) => (show q ≠ e2 by
        rcases HGO.out with h | h
        · rw [hq] at h; injection h; omega
        · rw [hq] at h; injection h; omega))
      replace HE2 := Lib.hid (HE2.out.grown HGG.out (fun e => by injection e; omega))
      refine wpAnyT_one' (i := 7) (by as_aux_lemma => kernel_rfl) rfl ?_
      -- the claims copied: from w3 (grown by g3) to the end; HNE: the growers' block is not e2
      go_wp2_with (at_builtin; refine app_3w 25 97 und25 info97' e2 rfl _ _ rfl _ [] l.cs rfl C l.cs.length cC rfl rfl (HL.out.c.grow (hB.trans (gz.trans (g3)))) (own_of_empty2 HE2.out) (by have := HE2.out.lt; omega) (by simp; omega) ?_; intro v4 w4 o1 o2 o3)
      have g4 := (g3).grown o2 (fun q hq => by have e3 : some e2 = some q := hq; injection e3; omega)
      have HOG4 : Hid (Own3 86 z.heap.size w4 (.slice AG l.gs.length cG) l.gs) := own_grownBy HOG.out (grown_row2 o2) (fun q hq e => by injection e with e; exact HNE.out q hq e.symm)
      have HCO : Hid (v4.ownBlock = some e2 ∨ v4.ownBlock = some w3.heap.size) := o3
      have HGL := Lib.hid (fun q (hq : Value.ownBlock (.slice AG l.gs.length cG) = some q) => own_lt HOG.out q hq)
      obtain ⟨AC, cc2, rfl, -, -⟩ := o1.row
      have HOC : Hid (Own3 97 z.heap.size w4 (.slice AC l.cs.length cc2) l.cs) := own_lower o1 hle2
      clear o1 o2 o3
      simp only [List.nil_append] at *
      go_wp2_with fail
      refine ⟨HSG.out w4 g4, ?_⟩
      refine wpAnyT_one' (i := 9) (by as_aux_lemma => kernel_rfl) rfl ?_
      have nb := HNX.out.grow (gz.trans g4)
      have y2 := nb.cell 2 (v := .slice A l.gs.length cA) rfl
      have z2 := nb.frozen 2
      go_wp2_with fail
      refine ⟨(HSG.out w4 g4).far2 (by show w.heap.size ≠ bx; omega) _, ?_⟩
      refine wpAnyT_one' (i := 10) (by as_aux_lemma => kernel_rfl) rfl ?_
      go_wp2_with fail
      refine ⟨(HSG.out w4 g4).far2 (by show w.heap.size ≠ bx; omega) _, ?_⟩
      refine wpAnyT_close (by as_aux_lemma => kernel_rfl) ?_
      refine wpAny_part (k := 11) (n := 1) (f := 0) rfl rfl (by as_aux_lemma => kernel_rfl) ?_
      simp only [List.drop_succ_cons, List.drop_zero, List.take_succ_cons, List.take_zero]
      have nb2 := nb.set 2 (.slice AG l.gs.length cG)
      have y3 := nb2.cell 3 (v := .slice C l.cs.length cC) rfl
      have z3 := nb2.frozen 3
      go_wp2_with fail
      refine wpAny_done (by as_aux_lemma => kernel_rfl) ?_
      go_wp2_with fail
      go_meet
      have nb3 := nb2.set 3 (.slice AC l.cs.length cc2)
      have hbz : bx < z.heap.size := by have := gz.size; omega
      refine ⟨rfl, ((HSG.out w4 g4).far2 (by show w.heap.size ≠ bx; omega) _).far2 (by show w.heap.size ≠ bx; omega) _, AG, cG, AC, cc2, ⟨hxl, rfl, rfl, nb3, ?_, ?_, ?_⟩, ((hB.trans (gz.trans g4)).setCell (p := ⟨bx, 2, none⟩) (by show w.heap.size ≤ bx; omega) _).setCell (p := ⟨bx, 3, none⟩) (by show w.heap.size ≤ bx; omega) _⟩
      · exact own_lower (own_far (own_far HOG4.out (fun q hq => by have := own_base HOG4.out q hq; show q ≠ bx; omega) _) (fun q hq => by have := own_base HOG4.out q hq; show q ≠ bx; omega) _) gz.size
      · exact own_lower (own_far (own_far HOC.out (fun q hq => by have := own_base HOC.out q hq; show q ≠ bx; omega) _) (fun q hq => by have := own_base HOC.out q hq; show q ≠ bx; omega) _) gz.size
      · intro q hq hc
        have h1 := HGL.out q hq
        rcases HCO.out with h2 | h2
        · rw [hc] at h2; injection h2 with h2; exact HNE.out q hq h2
        · rw [hc] at h2; injection h2 with h2; omega
  case rest =>
    obtain ⟨rfl, hlb, A1, c1, C1, c2, hxb, hg6⟩ := hcut
    have HKL := Lib.hid hlb
    have hnbx := hxb.lt
    obtain ⟨base, hbase⟩ : ∃ base, W.heap.size = base := ⟨_, rfl⟩
    rw [hbase] at hxb hnbx
    obtain ⟨g1, rfl, hgb, hglt, hgc, hgz⟩ := hxb.openg (fun e => by rw [e] at hgl; simp at hgl)
    obtain ⟨q0, -, -⟩ := hgc g l.gs[g] (List.getElem?_eq_getElem hgl)
    have z0 := hgz (g * 3)
    have hgv := HV.out.g l.gs[g] (List.getElem_mem hgl)
    have y2 := hxb.blk.cell 2 (v := .slice (some ⟨g1, 0, none⟩) l.gs.length c1) rfl
    have hwa : IntKind.i64.wrap (l.gs[g].a + n) = l.gs[g].a + n := IntWalk.i64_in _ (by omega)
    have HXS := Lib.hid (hxb.seta hgl (l.gs[g].a + n))
    rw [← moveG_eq hgl] at HXS
    clear hbase hxb HK HNX hxl hB hgc hgz hgv
    obtain ⟨ag, hag⟩ : ∃ ag, l.gs[g].a = ag := ⟨_, rfl⟩
    rw [hag] at q0 hwa HXS
    clear hag
    go_upto_region 7 with fail
    replace HKL := Lib.hid (HKL.out.far2 (p := ⟨g1, g * 3, none⟩) (by show w.heap.size ≠ g1; omega) (.int .i64 (ag + n)))
    have hg7 := hg6.setCell (p := ⟨g1, g * 3, none⟩) (by show w.heap.size ≤ g1; omega) (.int .i64 (ag + n))
    clear q0 hwa z0 y2 hg6 hlb
    generalize hv7 : wc.setCell _ _ = v7 at *
    clear hv7
    obtain ⟨w7, rfl⟩ : ∃ w7 : World, w7 = v7 := ⟨_, rfl⟩
    have HXS0 := HXS
    go_wp2_with fail
    go_loopw [10] (fun v10 wr => ∃ (i : Nat), i ≤ l.cs.length ∧ v10 = .int .i64 i ∧ Hid (XB wr base bx l.lo l.hi l.gs.length l.cs.length (moveG l g n) (mixC l.cs g n i) (some ⟨g1, 0, none⟩) C1 c1 c2) ∧ Hid (LBox wr w.heap.size l A C cA cC) ∧ Hid (G w wr)) (fun v10 _ => l.cs.length - (intOf v10).toNat)
    case atStart => exact ⟨0, by omega, rfl, by rw [Hid, mixC_zero]; exact HXS0.out, HKL.out, hg7⟩
    case round =>
      obtain ⟨i, hi, rfl, HX, HKR, HGR⟩ := hrel
      have y3 := HX.out.blk.cell 3 (v := .slice C1 l.cs.length c2) rfl
      by_cases hlt : i < l.cs.length
      · have hml : i < (mixC l.cs g n i).length := by rw [mixC_len]; exact hlt
        obtain ⟨g2, rfl, hgb2, hglt2, hgc2, hgz2⟩ := HX.out.openc (fun e => by rw [e] at hml; simp at hml)
        obtain ⟨q0, q1, q2⟩ := hgc2 i _ (List.getElem?_eq_getElem hml)
        have hmat := mixC_at (g := (g : Int)) (n := n) hlt hml
        rw [hmat] at q0 q1 q2
        have HSET := Lib.hid (fun (z : World) (h : G wr z) => (HX.out.grow h).setc hml (l.cs[i].lo - n) (l.cs[i].hi - n))
        rw [hmat] at HSET
        have HMS := Lib.hid (mixC_set (g := (g : Int)) (n := n) hlt)
        have HMK := Lib.hid (mixC_keep (g := (g : Int)) (n := n) hlt)
        have hcv := HV.out.c l.cs[i] (List.getElem_mem hlt)
        obtain ⟨bC, oC, rfl, d0, d1, d2⟩ := HL.out.c.at hlt
        have HD1 := Lib.hid d1
        have HD2 := Lib.hid d2
        have zf1 := hgz2 (i * 3 + 1)
        have zf2 := hgz2 (i * 3 + 2)
        clear d0 d1 d2 hgc2 hgz2 hmat
        generalize l.cs[i] = c at *
        cases heq : (c.a == (g : Int)) with
        | false =>
          have hkeep : moveC g n c = c := by unfold moveC; rw [if_neg (by simpa using heq)]
          have HM2 := Lib.hid (HMK.out hkeep)
          clear hkeep
          go_wp2_with fail
          go_roundw
          case rel => exact ⟨i + 1, by omega, by go_num, by rw [Hid, HM2.out]; exact HX.out, HKR.out, HGR.out⟩
          case measure => simp [intOf] <;> omega
        | true =>
          have hmv : moveC g n c = ⟨c.a, c.lo - n, c.hi - n⟩ := by unfold moveC; rw [if_pos (by simpa using heq)]
          rw [hmv] at HMS
          have HWL := Lib.hid (show IntKind.i64.wrap (c.lo - n) = c.lo - n from IntWalk.i64_in _ (by omega))
          have HWH := Lib.hid (show IntKind.i64.wrap (c.hi - n) = c.hi - n from IntWalk.i64_in _ (by omega))
          clear hmv
          go_wp2_with fail
          refine wp_region_A (by as_aux_lemma => kernel_rfl) ?_
          obtain ⟨z, hz⟩ : ∃ z : World, z = { wr with drawn := wr.drawn + 1 } := ⟨_, rfl⟩
          rw [← hz]
          have gz : G wr z := by rw [hz]; exact (G.refl _).drew
          clear hz
          have HS : LBox z w.heap.size l A (some ⟨bC, oC, none⟩) cA cC ∧ z.cell? ⟨bx, 3, none⟩ = some (.slice (some ⟨g2, 0, none⟩) l.cs.length c2) ∧ z.cell? ⟨bC, oC + i * 3 + 1, none⟩ = some (.int .i64 c.lo) ∧ z.cell? ⟨bC, oC + i * 3 + 2, none⟩ = some (.int .i64 c.hi) := ⟨HKR.out.grow gz, gz.cell y3, gz.cell (HGR.out.cell HD1.out), gz.cell (HGR.out.cell HD2.out)⟩
          have q1z := gz.cell q1
          have q2z := gz.cell q2
          have zf1z := gz.frozen (a := ⟨g2, i * 3 + 1, none⟩) hglt2 zf1
          have zf2z := gz.frozen (a := ⟨g2, i * 3 + 2, none⟩) hglt2 zf2
          clear q0 q1 q2 zf1 zf2 y3 heq
          refine wpAny_fork (fun w' => LBox w' w.heap.size l A (some ⟨bC, oC, none⟩) cA cC ∧ w'.cell? ⟨bx, 3, none⟩ = some (.slice (some ⟨g2, 0, none⟩) l.cs.length c2) ∧ w'.cell? ⟨bC, oC + i * 3 + 1, none⟩ = some (.int .i64 c.lo) ∧ w'.cell? ⟨bC, oC + i * 3 + 2, none⟩ = some (.int .i64 c.hi)) 24 ?_
          refine wpAnyU_takes' (i := 0) rfl (by as_aux_lemma => kernel_rfl) (fun _ _ _ _ h => h) HS ?_
          apply Exists.intro
          apply And.intro
          · refine Or.inl (And.intro (by rfl) ?_)
            rintro w ⟨⟨s0, s1, s2, s3⟩, s4, s5, s6⟩
            go_simp
            try rfl
          simp only [Act.put, List.setIfInBounds_toArray, List.set_cons_succ, List.set_cons_zero]
          refine wpAnyU_takes' (i := 1) rfl (by as_aux_lemma => kernel_rfl) (fun _ _ _ _ h => h) HS ?_
          apply Exists.intro
          apply And.intro
          · refine Or.inl (And.intro (by rfl) ?_)
            rintro w ⟨⟨s0, s1, s2, s3⟩, s4, s5, s6⟩
            go_simp
            try rfl
          simp only [Act.put, List.setIfInBounds_toArray, List.set_cons_succ, List.set_cons_zero]
          refine wpAnyU_takes' (i := 2) rfl (by as_aux_lemma => kernel_rfl) (fun _ _ _ _ h => h) HS ?_
          apply Exists.intro
          apply And.intro
          · refine Or.inl (And.intro (by rfl) ?_)
            rintro w ⟨⟨s0, s1, s2, s3⟩, s4, s5, s6⟩
            go_simp
            try rfl
          simp only [Act.put, List.setIfInBounds_toArray, List.set_cons_succ, List.set_cons_zero]
          refine wpAnyU_takes' (i := 3) rfl (by as_aux_lemma => kernel_rfl) (fun _ _ _ _ h => h) HS ?_
          apply Exists.intro
          apply And.intro
          · refine Or.inl (And.intro (by rfl) ?_)
            rintro w ⟨⟨s0, s1, s2, s3⟩, s4, s5, s6⟩
            go_simp
            try rfl
          simp only [Act.put, List.setIfInBounds_toArray, List.set_cons_succ, List.set_cons_zero]
          refine wpAnyU_takes' (i := 4) rfl (by as_aux_lemma => kernel_rfl) (fun _ _ _ _ h => h) HS ?_
          apply Exists.intro
          apply And.intro
          · refine Or.inl (And.intro (by rfl) ?_)
            rintro w ⟨⟨s0, s1, s2, s3⟩, s4, s5, s6⟩
            go_simp
            try rfl
          simp only [Act.put, List.setIfInBounds_toArray, List.set_cons_succ, List.set_cons_zero]
          refine wpAnyU_takes' (i := 5) rfl (by as_aux_lemma => kernel_rfl) (fun _ _ _ _ h => h) HS ?_
          apply Exists.intro
          apply And.intro
          · refine Or.inl (And.intro (by rfl) ?_)
            rintro w ⟨⟨s0, s1, s2, s3⟩, s4, s5, s6⟩
            go_simp
            try rfl
          simp only [Act.put, List.setIfInBounds_toArray, List.set_cons_succ, List.set_cons_zero]
          refine wpAnyU_takes' (i := 6) rfl (by as_aux_lemma => kernel_rfl) (fun _ _ _ _ h => h) HS ?_
          apply Exists.intro
          apply And.intro
          · refine Or.inl (And.intro (by rfl) ?_)
            rintro w ⟨⟨s0, s1, s2, s3⟩, s4, s5, s6⟩
            go_simp
            try rfl
          simp only [Act.put, List.setIfInBounds_toArray, List.set_cons_succ, List.set_cons_zero]
          refine wpAnyU_takes' (i := 7) rfl (by as_aux_lemma => kernel_rfl) (fun _ _ _ _ h => h) HS ?_
          apply Exists.intro
          apply And.intro
          · refine Or.inl (And.intro (by rfl) ?_)
            rintro w ⟨⟨s0, s1, s2, s3⟩, s4, s5, s6⟩
            go_simp
            try rfl
          simp only [Act.put, List.setIfInBounds_toArray, List.set_cons_succ, List.set_cons_zero]
          refine wpAnyU_takes' (i := 8) rfl (by as_aux_lemma => kernel_rfl) (fun _ _ _ _ h => h) HS ?_
          apply Exists.intro
          apply And.intro
          · refine Or.inl (And.intro (by rfl) ?_)
            rintro w ⟨⟨s0, s1, s2, s3⟩, s4, s5, s6⟩
            go_simp
            try rfl
          simp only [Act.put, List.setIfInBounds_toArray, List.set_cons_succ, List.set_cons_zero]
          refine wpAnyU_takes' (i := 9) rfl (by as_aux_lemma => kernel_rfl) (fun _ _ _ _ h => h) HS ?_
          apply Exists.intro
          apply And.intro
          · refine Or.inl (And.intro (by rfl) ?_)
            rintro w ⟨⟨s0, s1, s2, s3⟩, s4, s5, s6⟩
            go_simp
            try rfl
          simp only [Act.put, List.setIfInBounds_toArray, List.set_cons_succ, List.set_cons_zero]
          refine wpAnyU_takes' (i := 10) rfl (by as_aux_lemma => kernel_rfl) (fun _ _ _ _ h => h) HS ?_
          apply Exists.intro
          apply And.intro
          · refine Or.inl (And.intro (by rfl) ?_)
            rintro w ⟨⟨s0, s1, s2, s3⟩, s4, s5, s6⟩
            go_simp
            try rfl
          simp only [Act.put, List.setIfInBounds_toArray, List.set_cons_succ, List.set_cons_zero]
          refine wpAnyU_take' (i := 11) (v := .int .i64 (c.lo - n)) rfl (by as_aux_lemma => kernel_rfl) (fun _ _ _ h => h) HS (Or.inl ⟨by rfl, ?_⟩) ?_
          · rintro w ⟨⟨s0, s1, s2, s3⟩, s4, s5, s6⟩
            go_simp
            exact HWL.out
          simp only [Act.put, List.setIfInBounds_toArray, List.set_cons_succ, List.set_cons_zero]
          refine wpAnyU_takes' (i := 12) rfl (by as_aux_lemma => kernel_rfl) (fun _ _ _ _ h => h) HS ?_
          apply Exists.intro
          apply And.intro
          · refine Or.inl (And.intro (by rfl) ?_)
            rintro w ⟨⟨s0, s1, s2, s3⟩, s4, s5, s6⟩
            go_simp
            try rfl
          simp only [Act.put, List.setIfInBounds_toArray, List.set_cons_succ, List.set_cons_zero]
          refine wpAnyU_takes' (i := 13) rfl (by as_aux_lemma => kernel_rfl) (fun _ _ _ _ h => h) HS ?_
          apply Exists.intro
          apply And.intro
          · refine Or.inl (And.intro (by rfl) ?_)
            rintro w ⟨⟨s0, s1, s2, s3⟩, s4, s5, s6⟩
            go_simp
            try rfl
          simp only [Act.put, List.setIfInBounds_toArray, List.set_cons_succ, List.set_cons_zero]
          refine wpAnyU_takes' (i := 14) rfl (by as_aux_lemma => kernel_rfl) (fun _ _ _ _ h => h) HS ?_
          apply Exists.intro
          apply And.intro
          · refine Or.inl (And.intro (by rfl) ?_)
            rintro w ⟨⟨s0, s1, s2, s3⟩, s4, s5, s6⟩
            go_simp
            try rfl
          simp only [Act.put, List.setIfInBounds_toArray, List.set_cons_succ, List.set_cons_zero]
          refine wpAnyU_takes' (i := 15) rfl (by as_aux_lemma => kernel_rfl) (fun _ _ _ _ h => h) HS ?_
          apply Exists.intro
          apply And.intro
          · refine Or.inl (And.intro (by rfl) ?_)
            rintro w ⟨⟨s0, s1, s2, s3⟩, s4, s5, s6⟩
            go_simp
            try rfl
          simp only [Act.put, List.setIfInBounds_toArray, List.set_cons_succ, List.set_cons_zero]
          refine wpAnyU_takes' (i := 16) rfl (by as_aux_lemma => kernel_rfl) (fun _ _ _ _ h => h) HS ?_
          apply Exists.intro
          apply And.intro
          · refine Or.inl (And.intro (by rfl) ?_)
            rintro w ⟨⟨s0, s1, s2, s3⟩, s4, s5, s6⟩
            go_simp
            try rfl
          simp only [Act.put, List.setIfInBounds_toArray, List.set_cons_succ, List.set_cons_zero]
          refine wpAnyU_takes' (i := 17) rfl (by as_aux_lemma => kernel_rfl) (fun _ _ _ _ h => h) HS ?_
          apply Exists.intro
          apply And.intro
          · refine Or.inl (And.intro (by rfl) ?_)
            rintro w ⟨⟨s0, s1, s2, s3⟩, s4, s5, s6⟩
            go_simp
            try rfl
          simp only [Act.put, List.setIfInBounds_toArray, List.set_cons_succ, List.set_cons_zero]
          refine wpAnyU_takes' (i := 18) rfl (by as_aux_lemma => kernel_rfl) (fun _ _ _ _ h => h) HS ?_
          apply Exists.intro
          apply And.intro
          · refine Or.inl (And.intro (by rfl) ?_)
            rintro w ⟨⟨s0, s1, s2, s3⟩, s4, s5, s6⟩
            go_simp
            try rfl
          simp only [Act.put, List.setIfInBounds_toArray, List.set_cons_succ, List.set_cons_zero]
          refine wpAnyU_takes' (i := 19) rfl (by as_aux_lemma => kernel_rfl) (fun _ _ _ _ h => h) HS ?_
          apply Exists.intro
          apply And.intro
          · refine Or.inl (And.intro (by rfl) ?_)
            rintro w ⟨⟨s0, s1, s2, s3⟩, s4, s5, s6⟩
            go_simp
            try rfl
          simp only [Act.put, List.setIfInBounds_toArray, List.set_cons_succ, List.set_cons_zero]
          refine wpAnyU_take' (i := 20) (v := .int .i64 (c.hi - n)) rfl (by as_aux_lemma => kernel_rfl) (fun _ _ _ h => h) HS (Or.inl ⟨by rfl, ?_⟩) ?_
          · rintro w ⟨⟨s0, s1, s2, s3⟩, s4, s5, s6⟩
            go_simp
            exact HWH.out
          simp only [Act.put, List.setIfInBounds_toArray, List.set_cons_succ, List.set_cons_zero]
          refine wpAnyU_takes' (i := 21) rfl (by as_aux_lemma => kernel_rfl) (fun _ _ _ _ h => h) HS ?_
          apply Exists.intro
          apply And.intro
          · refine Or.inl (And.intro (by rfl) ?_)
            rintro w ⟨⟨s0, s1, s2, s3⟩, s4, s5, s6⟩
            go_simp
            try rfl
          simp only [Act.put, List.setIfInBounds_toArray, List.set_cons_succ, List.set_cons_zero]
          refine wpAnyU_takes' (i := 22) rfl (by as_aux_lemma => kernel_rfl) (fun _ _ _ _ h => h) HS ?_
          apply Exists.intro
          apply And.intro
          · refine Or.inl (And.intro (by rfl) ?_)
            rintro w ⟨⟨s0, s1, s2, s3⟩, s4, s5, s6⟩
            go_simp
            try rfl
          simp only [Act.put, List.setIfInBounds_toArray, List.set_cons_succ, List.set_cons_zero]
          refine wpAnyU_takes' (i := 23) rfl (by as_aux_lemma => kernel_rfl) (fun _ _ _ _ h => h) HS ?_
          apply Exists.intro
          apply And.intro
          · refine Or.inl (And.intro (by rfl) ?_)
            rintro w ⟨⟨s0, s1, s2, s3⟩, s4, s5, s6⟩
            go_simp
            try rfl
          simp only [Act.put, List.setIfInBounds_toArray, List.set_cons_succ, List.set_cons_zero]
          refine wpAnyT_close (by as_aux_lemma => kernel_rfl) ?_
          refine wpAny_part (k := 24) (n := 1) (f := 0) rfl rfl (by as_aux_lemma => kernel_rfl) ?_
          simp only [List.drop_succ_cons, List.drop_zero, List.take_succ_cons, List.take_zero]
          go_wp2_with fail
          refine wpAny_done (by as_aux_lemma => kernel_rfl) ?_
          go_wp2_with fail
          go_roundw
          case rel => exact ⟨i + 1, by omega, by go_num, by rw [Hid, ← HMS.out]; exact HSET.out z gz, ((HKR.out.grow gz).far2 (by show w.heap.size ≠ g2; omega) _).far2 (by show w.heap.size ≠ g2; omega) _, ((HGR.out.trans gz).setCell (p := ⟨g2, i * 3 + 1, none⟩) (by show w.heap.size ≤ g2; omega) _).setCell (p := ⟨g2, i * 3 + 1 + 1, none⟩) (by show w.heap.size ≤ g2; omega) _⟩
          case measure => simp [intOf] <;> omega
      · obtain rfl : i = l.cs.length := by omega
        rw [mixC_all] at HX
        go_upto_region 12 with fail
        clear y3
        have hxb := HX.out
        have HXX := Lib.hid (show LedR wr (moveL l g n) (some ⟨g1, 0, none⟩) C1 from hxb.led)
        have hbx2 : LBox wr bx (moveL l g n) (some ⟨g1, 0, none⟩) C1 c1 c2 := hxb.box
        have hlv := fun hX => move_leave (n := n) HV.out hX hgl
        have hak := fun hX => move_ask (n := n) HV.out hX hgl
        have hrt := fun hX => move_rate (n := n) HV.out hX hgl
        have hdu := fun h k => move_due (n := n) HV.out hgl h k
        have hxg : (moveL l g n).gs.length = l.gs.length := move_ng
        have HLV := Lib.hid hlv
        have HAK := Lib.hid hak
        have HRT := Lib.hid hrt
        have HDU := Lib.hid hdu
        have HXG := Lib.hid hxg
        have g8 := HGR.out
        obtain ⟨⟨s0, s1, s2, s3⟩, t0, t1, t2, t3⟩ : LBox wr w.heap.size l A C cA cC ∧ LBox wr bx (moveL l g n) (some ⟨g1, 0, none⟩) C1 c1 c2 := ⟨HKR.out, hbx2⟩
        have HK := Lib.hid (show LBox wr w.heap.size l A C cA cC ∧ LBox wr bx (moveL l g n) (some ⟨g1, 0, none⟩) C1 c1 c2 from ⟨HKR.out, hbx2⟩)
        generalize moveL l g n = x at *
        obtain ⟨w8, rfl⟩ : ∃ w8 : World, w8 = wr := ⟨_, rfl⟩
        clear hlv hak hrt hdu hxg hxb hbx2 HX HKR HGR HKL hg7 HXS HXS0 hi hlt
        go_wp2_with fail
        refine (ready_c (HXX.out)).mono ?_
        cases hr : readyB x with
        | false =>
          rintro e w2 ⟨rfl, hb2⟩
          clear hr
          have g2 := g8.trans hb2
          go_wp2_with fail
          refine (awake_c w2).mono ?_
          rintro e w99 ⟨rfl, hb99⟩
          go_wp2_with fail
          go_ret
          exact ⟨rfl, (g2).trans hb99⟩
        | true =>
          obtain ⟨hgx, hcx, hfx, hX⟩ := readyB_iff hr
          rintro e w2 ⟨rfl, hb2⟩
          have HVX := Lib.hid hX
          have HFX := Lib.hid hfx
          clear hr hX hfx
          -- both boxes and the second ledger kept over hb2; growth g8 renewed to g2
          replace HK := Lib.hid (show LBox _ _ _ _ _ _ _ ∧ LBox _ _ _ _ _ _ _ from ⟨HK.out.1.grow (hb2), HK.out.2.grow (hb2)⟩)
          replace HXX := Lib.hid (HXX.out.grow (hb2))
          have g2 := (g8).trans (hb2)
          clear s0 s1 s2 s3 t0 t1 t2 t3
          obtain ⟨⟨s0, s1, s2, s3⟩, t0, t1, t2, t3⟩ := HK.out
          -- Ledger of l A C cA cC (its LedR HL.out.grow g2 at the world w2), to w3 by hb3; lengths by omega; HX: the new LedR
          go_wp2_with fail
          refine (Ledger_c l A C cA cC w2 (HL.out.grow g2) (by omega) (by omega)).mono ?_
          rintro e w3 ⟨⟨AX, CX, cAX, cCX, rfl, hLX, hcA, hcC⟩, hb3⟩
          have HX := Lib.hid hLX
          clear hLX
          go_wp2_with fail
          refine (Leave_c l AX CX cAX cCX w3 HX.out hg hc (fun h => leaveF_some h)).mono ?_
          rw [HF.out]
          rintro e w4 ⟨⟨v4, rfl, ho4⟩, hb4⟩
          obtain ⟨A4, c4, rfl, -, hr4⟩ := ho4.row
          have HR4 := Lib.hid hr4
          have hb34 := hb3.trans hb4
          -- both boxes and the second ledger kept over hb34; growth g2 renewed to g4
          replace HK := Lib.hid (show LBox _ _ _ _ _ _ _ ∧ LBox _ _ _ _ _ _ _ from ⟨HK.out.1.grow (hb34), HK.out.2.grow (hb34)⟩)
          replace HXX := Lib.hid (HXX.out.grow (hb34))
          have g4 := (g2).trans (hb34)
          clear s0 s1 s2 s3 t0 t1 t2 t3
          obtain ⟨⟨s0, s1, s2, s3⟩, t0, t1, t2, t3⟩ := HK.out
          clear HX hcA hcC hb2 hb3 hb4 hb34 ho4 hr4 g8
          -- Ledger of x (some ⟨g1, 0, none⟩) C1 c1 c2 (its LedR HXX.out at the world w4), to w5 by hb5; lengths by omega; HX: the new LedR
          go_wp2_with fail
          refine (Ledger_c x (some ⟨g1, 0, none⟩) C1 c1 c2 w4 (HXX.out) (by omega) (by omega)).mono ?_
          rintro e w5 ⟨⟨AX, CX, cAX, cCX, rfl, hLX, hcA, hcC⟩, hb5⟩
          have HX := Lib.hid hLX
          clear hLX
          go_wp2_with fail
          refine (Leave_c x AX CX cAX cCX w5 HX.out hgx hcx (fun h => leaveF_some h)).mono ?_
          rw [HFX.out, HLV.out HVX.out]
          rintro e w6 ⟨⟨v6, rfl, ho6⟩, hb6⟩
          obtain ⟨A7, c7, rfl, -, hr7⟩ := ho6.row
          have HR7 := Lib.hid hr7
          have hb56 := hb5.trans hb6
          replace HR4 := Lib.hid (HR4.out.grow hb56)
          -- both boxes and the second ledger kept over hb56; growth g4 renewed to g6
          replace HK := Lib.hid (show LBox _ _ _ _ _ _ _ ∧ LBox _ _ _ _ _ _ _ from ⟨HK.out.1.grow (hb56), HK.out.2.grow (hb56)⟩)
          replace HXX := Lib.hid (HXX.out.grow (hb56))
          have g6 := (g4).trans (hb56)
          clear s0 s1 s2 s3 t0 t1 t2 t3
          obtain ⟨⟨s0, s1, s2, s3⟩, t0, t1, t2, t3⟩ := HK.out
          have hl6 := leaveL_len HV.out
          clear HX hcA hcC hb5 hb6 hb56 ho6 hr7 g2
          go_wp2_with fail
          refine (same_c A4 A7 c4 c7 _ _ w6 HR4.out HR7.out (by omega) (by omega)).mono ?_
          rw [decide_eq_true (rfl : leaveL l = leaveL l)]
          rintro e w9 ⟨rfl, hb9⟩
          -- both boxes and the second ledger kept over hb9; growth g6 renewed to g9
          replace HK := Lib.hid (show LBox _ _ _ _ _ _ _ ∧ LBox _ _ _ _ _ _ _ from ⟨HK.out.1.grow (hb9), HK.out.2.grow (hb9)⟩)
          replace HXX := Lib.hid (HXX.out.grow (hb9))
          have g9 := (g6).trans (hb9)
          clear s0 s1 s2 s3 t0 t1 t2 t3
          obtain ⟨⟨s0, s1, s2, s3⟩, t0, t1, t2, t3⟩ := HK.out
          clear HR4 HR7 hl6 hb9 g4
          -- Ledger of l A C cA cC (its LedR HL.out.grow g9 at the world w9), to w10 by hb10; lengths by omega; HX: the new LedR
          go_wp2_with fail
          refine (Ledger_c l A C cA cC w9 (HL.out.grow g9) (by omega) (by omega)).mono ?_
          rintro e w10 ⟨⟨AX, CX, cAX, cCX, rfl, hLX, hcA, hcC⟩, hb10⟩
          have HX := Lib.hid hLX
          clear hLX
          go_wp2_with fail
          refine (Bounds_c l AX CX cAX cCX w10 HX.out hg hc).mono ?_
          rintro e w11 ⟨⟨v11, rfl, ho11⟩, hb11⟩
          obtain ⟨A11, c11, rfl, -, hr11⟩ := Own2.row ho11
          have HR11 := Lib.hid hr11
          have kb11 := hb10.trans hb11
          -- both boxes and the second ledger kept over kb11; growth g9 renewed to g11
          replace HK := Lib.hid (show LBox _ _ _ _ _ _ _ ∧ LBox _ _ _ _ _ _ _ from ⟨HK.out.1.grow (kb11), HK.out.2.grow (kb11)⟩)
          replace HXX := Lib.hid (HXX.out.grow (kb11))
          have g11 := (g9).trans (kb11)
          clear s0 s1 s2 s3 t0 t1 t2 t3
          obtain ⟨⟨s0, s1, s2, s3⟩, t0, t1, t2, t3⟩ := HK.out
          clear HX hcA hcC hb10 hb11 kb11 ho11 hr11 g6
          -- Ledger of x (some ⟨g1, 0, none⟩) C1 c1 c2 (its LedR HXX.out at the world w11), to w12 by hb12; lengths by omega; HX: the new LedR
          go_wp2_with fail
          refine (Ledger_c x (some ⟨g1, 0, none⟩) C1 c1 c2 w11 (HXX.out) (by omega) (by omega)).mono ?_
          rintro e w12 ⟨⟨AX, CX, cAX, cCX, rfl, hLX, hcA, hcC⟩, hb12⟩
          have HX := Lib.hid hLX
          clear hLX
          go_wp2_with fail
          refine (Bounds_c x AX CX cAX cCX w12 HX.out hgx hcx).mono ?_
          rw [HAK.out HVX.out]
          rintro e w13 ⟨⟨v13, rfl, ho13⟩, hb13⟩
          obtain ⟨A13, c13, rfl, -, hr13⟩ := Own2.row ho13
          have HR13 := Lib.hid hr13
          have kb13 := hb12.trans hb13
          replace HR11 := Lib.hid (HR11.out.grow kb13)
          -- both boxes and the second ledger kept over kb13; growth g11 renewed to g13
          replace HK := Lib.hid (show LBox _ _ _ _ _ _ _ ∧ LBox _ _ _ _ _ _ _ from ⟨HK.out.1.grow (kb13), HK.out.2.grow (kb13)⟩)
          replace HXX := Lib.hid (HXX.out.grow (kb13))
          have g13 := (g11).trans (kb13)
          clear s0 s1 s2 s3 t0 t1 t2 t3
          obtain ⟨⟨s0, s1, s2, s3⟩, t0, t1, t2, t3⟩ := HK.out
          clear HX hcA hcC hb12 hb13 kb13 ho13 hr13 g9
          -- Ledger of l A C cA cC (its LedR HL.out.grow g13 at the world w13), to w14 by hb14; lengths by omega; HX: the new LedR
          go_wp2_with fail
          refine (Ledger_c l A C cA cC w13 (HL.out.grow g13) (by omega) (by omega)).mono ?_
          rintro e w14 ⟨⟨AX, CX, cAX, cCX, rfl, hLX, hcA, hcC⟩, hb14⟩
          have HX := Lib.hid hLX
          clear hLX
          go_wp2_with fail
          refine (Rate_c l AX CX cAX cCX w14 HX.out hg hc).mono ?_
          rintro e w15 ⟨rfl, hb15⟩
          go_upto_region 21 with fail
          have n15 := Blk.new w15 #[.int .i64 (rateL l).1, .int .i64 (rateL l).2] 34
          have x15 := (G.refl w15).alloc (.cells #[.int .i64 (rateL l).1, .int .i64 (rateL l).2] 34)
          generalize hp15 : w15.heap.size = p15 at *
          generalize hv15 : w15.alloc _ = v15 at *
          have kb15 := hb14.trans (hb15.trans x15)
          have HN15 := Lib.hid n15
          clear hp15 hv15 n15
          replace HR11 := Lib.hid (HR11.out.grow kb15)
          replace HR13 := Lib.hid (HR13.out.grow kb15)
          -- both boxes and the second ledger kept over kb15; growth g13 renewed to g15
          replace HK := Lib.hid (show LBox _ _ _ _ _ _ _ ∧ LBox _ _ _ _ _ _ _ from ⟨HK.out.1.grow (kb15), HK.out.2.grow (kb15)⟩)
          replace HXX := Lib.hid (HXX.out.grow (kb15))
          have g15 := (g13).trans (kb15)
          clear s0 s1 s2 s3 t0 t1 t2 t3
          obtain ⟨⟨s0, s1, s2, s3⟩, t0, t1, t2, t3⟩ := HK.out
          clear HX hcA hcC hb14 hb15 x15 kb15 g11
          -- Ledger of x (some ⟨g1, 0, none⟩) C1 c1 c2 (its LedR HXX.out at the world v15), to w16 by hb16; lengths by omega; HX: the new LedR
          go_wp2_with fail
          refine (Ledger_c x (some ⟨g1, 0, none⟩) C1 c1 c2 v15 (HXX.out) (by omega) (by omega)).mono ?_
          rintro e w16 ⟨⟨AX, CX, cAX, cCX, rfl, hLX, hcA, hcC⟩, hb16⟩
          have HX := Lib.hid hLX
          clear hLX
          go_wp2_with fail
          refine (Rate_c x AX CX cAX cCX w16 HX.out hgx hcx).mono ?_
          rw [HAK.out HVX.out, HRT.out HVX.out]
          rintro e w17 ⟨rfl, hb17⟩
          go_upto_region 22 with fail
          have n17 := Blk.new w17 #[.int .i64 (rateL l).1, .int .i64 (rateL l).2] 34
          have x17 := (G.refl w17).alloc (.cells #[.int .i64 (rateL l).1, .int .i64 (rateL l).2] 34)
          generalize hp17 : w17.heap.size = p17 at *
          generalize hv17 : w17.alloc _ = v17 at *
          have kb17 := hb16.trans (hb17.trans x17)
          have HN17 := Lib.hid n17
          clear hp17 hv17 n17
          replace HR11 := Lib.hid (HR11.out.grow kb17)
          replace HR13 := Lib.hid (HR13.out.grow kb17)
          replace HN15 := Lib.hid (HN15.out.grow kb17)
          -- both boxes and the second ledger kept over kb17; growth g15 renewed to g17
          replace HK := Lib.hid (show LBox _ _ _ _ _ _ _ ∧ LBox _ _ _ _ _ _ _ from ⟨HK.out.1.grow (kb17), HK.out.2.grow (kb17)⟩)
          replace HXX := Lib.hid (HXX.out.grow (kb17))
          have g17 := (g15).trans (kb17)
          clear s0 s1 s2 s3 t0 t1 t2 t3
          obtain ⟨⟨s0, s1, s2, s3⟩, t0, t1, t2, t3⟩ := HK.out
          clear HX hcA hcC hb16 hb17 x17 kb17 g13
          by_cases he : askErr l true = 0
          · have hex : askErr x true = 0 := by rw [HAK.out HVX.out]; exact he
            have hlb := boundL_length he
            have hlx := boundL_length hex
            rw [HXG.out] at hlx
            obtain ⟨-, -, hne, -⟩ := truth_facts he
            have HBD := Lib.hid (fun (k : Nat) => due_bd he k)
            have HBL := Lib.hid (fun (k : Nat) (h : k < (boundL l).length) => boundL_get he h)
            have HBX := Lib.hid (fun (k : Nat) (h : k < (boundL x).length) => (boundL_get hex h).trans (HDU.out hne k))
            have HLB := Lib.hid hlb
            have HLX := Lib.hid hlx
            have e0 := HN15.out.cell 0 rfl
            have e1 := HN15.out.cell 1 rfl
            have e2 := HN17.out.cell 0 rfl
            have e3 := HN17.out.cell 1 rfl
            rw [he, hlb, hlx]
            clear hne he hex hlb hlx HRT HAK
            generalize rateL l = ra at *
            have hnes := ne34_same ra.1 ra.2
            have hnn : ((l.gs.length : Int) != l.gs.length) = false := by simp
            go_wp2_with fail
            clear hnes hnn e0 e1 e2 e3 s0 s1 s2 s3 t0 t1 t2 t3
            go_loopw [23] (fun v23 wr => ∃ (k : Nat), k ≤ l.gs.length ∧ v23 = .int .i64 k ∧ G v17 wr) (fun v23 _ => l.gs.length - (intOf v23).toNat)
            case atStart => exact ⟨0, by omega, rfl, G.refl _⟩
            case round =>
              obtain ⟨k, hk, rfl, hbr⟩ := hrel
              by_cases hlt : k < l.gs.length
              · have hki : (k : Int) < l.gs.length := by omega
                have h2 : k < (boundL l).length := by rw [HLB.out]; exact hlt
                have h3 : k < (boundL x).length := by rw [HLX.out]; exact hlt
                obtain ⟨b1, o1, rfl, f0, f1⟩ := HR11.out.at h2
                obtain ⟨b2, o2, rfl, f2, f3⟩ := HR13.out.at h3
                rw [HBL.out k h2] at f0 f1
                rw [HBX.out k h3] at f2 f3
                have hbd := HBD.out k
                have e0 := hbr.cell f0
                have e1 := hbr.cell f1
                have HF0 := Lib.hid f0
                have HF1 := Lib.hid f1
                clear f0 f1 h2 h3
                generalize dueB l k = d at *
                have hvs := hbr.size
                go_upto_region 30 with fail
                have n7 := Blk.new wr #[.int .i64 d.1, .int .i64 d.2] 34
                have gx := hbr.alloc (.cells #[.int .i64 d.1, .int .i64 d.2] 34)
                generalize hm7 : wr.heap.size = m7 at *
                generalize hv7 : wr.alloc _ = w18 at *
                have HN7 := Lib.hid n7
                clear hm7 hv7 e0 e1 n7
                cases hkg : ((k : Int) == (g : Int)) with
                | false =>
                  have hof : offBy g n k = 0 := by
                    unfold offBy
                    rw [if_neg (by intro h; rw [h] at hkg; simp at hkg)]
                  simp only [hof, Int.sub_zero] at f2 f3
                  have HF2 := Lib.hid f2
                  have HF3 := Lib.hid f3
                  clear f2 f3 hof
                  go_wp2_with fail
                  have c0 := HN7.out.cell 0 (v := .int .i64 d.1) rfl
                  have c1 := HN7.out.cell 1 (v := .int .i64 d.2) rfl
                  -- the moved bounds compared with the box m7: world w18 (grown by gx : G v17 w18), both hold (d.1, d.2)
                  refine wp_region_A (by as_aux_lemma => kernel_rfl) ?_
                  obtain ⟨z, hz⟩ : ∃ z : World, z = { w18 with drawn := w18.drawn + 1 } := ⟨_, rfl⟩
                  rw [← hz]
                  have gz : G w18 z := by rw [hz]; exact (G.refl _).drew
                  clear hz
                  have HS : z.cell? ⟨b2, o2 + k * 2, none⟩ = some (.int .i64 d.1) ∧ z.cell? ⟨b2, o2 + k * 2 + 1, none⟩ = some (.int .i64 d.2) ∧ z.cell? ⟨m7, 0, none⟩ = some (.int .i64 d.1) ∧ z.cell? ⟨m7, 1, none⟩ = some (.int .i64 d.2) := ⟨gz.cell ((gx).cell HF2.out), gz.cell ((gx).cell HF3.out), gz.cell c0, gz.cell c1⟩
                  refine wpAny_fork (fun w' => w'.cell? ⟨b2, o2 + k * 2, none⟩ = some (.int .i64 d.1) ∧ w'.cell? ⟨b2, o2 + k * 2 + 1, none⟩ = some (.int .i64 d.2) ∧ w'.cell? ⟨m7, 0, none⟩ = some (.int .i64 d.1) ∧ w'.cell? ⟨m7, 1, none⟩ = some (.int .i64 d.2)) 5 ?_
                  refine wpAnyU_takes' (i := 0) rfl (by as_aux_lemma => kernel_rfl) (fun _ _ _ _ h => h) HS ?_
                  apply Exists.intro
                  apply And.intro
                  · refine Or.inl (And.intro (by rfl) ?_)
                    rintro w ⟨s0, s1, s2, s3⟩
                    go_simp
                    try rfl
                  simp only [Act.put, List.setIfInBounds_toArray, List.set_cons_succ, List.set_cons_zero]
                  refine wpAnyU_takes' (i := 1) rfl (by as_aux_lemma => kernel_rfl) (fun _ _ _ _ h => h) HS ?_
                  apply Exists.intro
                  apply And.intro
                  · refine Or.inl (And.intro (by rfl) ?_)
                    rintro w ⟨s0, s1, s2, s3⟩
                    go_simp
                    try rfl
                  simp only [Act.put, List.setIfInBounds_toArray, List.set_cons_succ, List.set_cons_zero]
                  refine wpAnyU_takes' (i := 2) rfl (by as_aux_lemma => kernel_rfl) (fun _ _ _ _ h => h) HS ?_
                  apply Exists.intro
                  apply And.intro
                  · refine Or.inl (And.intro (by rfl) ?_)
                    rintro w ⟨s0, s1, s2, s3⟩
                    go_simp
                    try rfl
                  simp only [Act.put, List.setIfInBounds_toArray, List.set_cons_succ, List.set_cons_zero]
                  refine wpAnyU_takes' (i := 3) rfl (by as_aux_lemma => kernel_rfl) (fun _ _ _ _ h => h) HS ?_
                  apply Exists.intro
                  apply And.intro
                  · refine Or.inl (And.intro (by rfl) ?_)
                    rintro w ⟨s0, s1, s2, s3⟩
                    go_simp
                    try rfl
                  simp only [Act.put, List.setIfInBounds_toArray, List.set_cons_succ, List.set_cons_zero]
                  refine wpAnyU_takes' (i := 4) rfl (by as_aux_lemma => kernel_rfl) (fun _ _ _ _ h => h) HS ?_
                  apply Exists.intro
                  apply And.intro
                  · refine Or.inl (And.intro (by rfl) ?_)
                    rintro w ⟨s0, s1, s2, s3⟩
                    go_simp
                    try rfl
                  simp only [Act.put, List.setIfInBounds_toArray, List.set_cons_succ, List.set_cons_zero]
                  refine wpAnyT_close (by as_aux_lemma => kernel_rfl) ?_
                  refine wpAny_part (k := 5) (n := 1) (f := 0) rfl rfl (by as_aux_lemma => kernel_rfl) ?_
                  simp only [List.drop_succ_cons, List.drop_zero, List.take_succ_cons, List.take_zero]
                  have hnes := ne34_same (d.1) (d.2)
                  go_wp2_with fail
                  refine wpAny_done (by as_aux_lemma => kernel_rfl) ?_
                  clear hnes HS c0 c1
                  go_wp2_with fail
                  go_roundw
                  case rel => exact ⟨k + 1, by omega, by go_num, (gx).trans gz⟩
                  case measure => simp [intOf] <;> omega
                | true =>
                  have hof : offBy g n k = n := by
                    unfold offBy
                    rw [if_pos (by have := beq_iff_eq.1 hkg; omega)]
                  simp only [hof] at f2 f3
                  have HF2 := Lib.hid f2
                  have HF3 := Lib.hid f3
                  clear f2 f3 hof
                  have HWL := Lib.hid (show IntKind.i64.wrap (d.1 - n) = d.1 - n from IntWalk.i64_in _ (by omega))
                  have HWH := Lib.hid (show IntKind.i64.wrap (d.2 - n) = d.2 - n from IntWalk.i64_in _ (by omega))
                  go_wp2_with fail
                  refine wp_region_A (by as_aux_lemma => kernel_rfl) ?_
                  obtain ⟨z, hz⟩ : ∃ z : World, z = { w18 with drawn := w18.drawn + 1 } := ⟨_, rfl⟩
                  rw [← hz]
                  have gz : G w18 z := by rw [hz]; exact (G.refl _).drew
                  clear hz
                  have gzz := gx.trans gz
                  have HS : z.cell? ⟨b1, o1 + k * 2, none⟩ = some (.int .i64 d.1) ∧ z.cell? ⟨b1, o1 + k * 2 + 1, none⟩ = some (.int .i64 d.2) := ⟨gzz.cell HF0.out, gzz.cell HF1.out⟩
                  refine wpAny_fork (fun w' => w'.cell? ⟨b1, o1 + k * 2, none⟩ = some (.int .i64 d.1) ∧ w'.cell? ⟨b1, o1 + k * 2 + 1, none⟩ = some (.int .i64 d.2)) 14 ?_
                  refine wpAnyU_takes' (i := 0) rfl (by as_aux_lemma => kernel_rfl) (fun _ _ _ _ h => h) HS ?_
                  apply Exists.intro
                  apply And.intro
                  · refine Or.inl (And.intro (by rfl) ?_)
                    rintro w ⟨s0, s1⟩
                    go_simp
                    try rfl
                  simp only [Act.put, List.setIfInBounds_toArray, List.set_cons_succ, List.set_cons_zero]
                  refine wpAnyU_takes' (i := 1) rfl (by as_aux_lemma => kernel_rfl) (fun _ _ _ _ h => h) HS ?_
                  apply Exists.intro
                  apply And.intro
                  · refine Or.inl (And.intro (by rfl) ?_)
                    rintro w ⟨s0, s1⟩
                    go_simp
                    try rfl
                  simp only [Act.put, List.setIfInBounds_toArray, List.set_cons_succ, List.set_cons_zero]
                  refine wpAnyU_takes' (i := 2) rfl (by as_aux_lemma => kernel_rfl) (fun _ _ _ _ h => h) HS ?_
                  apply Exists.intro
                  apply And.intro
                  · refine Or.inl (And.intro (by rfl) ?_)
                    rintro w ⟨s0, s1⟩
                    go_simp
                    try rfl
                  simp only [Act.put, List.setIfInBounds_toArray, List.set_cons_succ, List.set_cons_zero]
                  refine wpAnyU_takes' (i := 3) rfl (by as_aux_lemma => kernel_rfl) (fun _ _ _ _ h => h) HS ?_
                  apply Exists.intro
                  apply And.intro
                  · refine Or.inl (And.intro (by rfl) ?_)
                    rintro w ⟨s0, s1⟩
                    go_simp
                    try rfl
                  simp only [Act.put, List.setIfInBounds_toArray, List.set_cons_succ, List.set_cons_zero]
                  refine wpAnyU_takes' (i := 4) rfl (by as_aux_lemma => kernel_rfl) (fun _ _ _ _ h => h) HS ?_
                  apply Exists.intro
                  apply And.intro
                  · refine Or.inl (And.intro (by rfl) ?_)
                    rintro w ⟨s0, s1⟩
                    go_simp
                    try rfl
                  simp only [Act.put, List.setIfInBounds_toArray, List.set_cons_succ, List.set_cons_zero]
                  refine wpAnyU_takes' (i := 5) rfl (by as_aux_lemma => kernel_rfl) (fun _ _ _ _ h => h) HS ?_
                  apply Exists.intro
                  apply And.intro
                  · refine Or.inl (And.intro (by rfl) ?_)
                    rintro w ⟨s0, s1⟩
                    go_simp
                    try rfl
                  simp only [Act.put, List.setIfInBounds_toArray, List.set_cons_succ, List.set_cons_zero]
                  refine wpAnyU_take' (i := 6) (v := .int .i64 (d.1 - n)) rfl (by as_aux_lemma => kernel_rfl) (fun _ _ _ h => h) HS (Or.inl ⟨by rfl, ?_⟩) ?_
                  · rintro w ⟨s0, s1⟩
                    go_simp
                    exact HWL.out
                  simp only [Act.put, List.setIfInBounds_toArray, List.set_cons_succ, List.set_cons_zero]
                  refine wpAnyU_takes' (i := 7) rfl (by as_aux_lemma => kernel_rfl) (fun _ _ _ _ h => h) HS ?_
                  apply Exists.intro
                  apply And.intro
                  · refine Or.inl (And.intro (by rfl) ?_)
                    rintro w ⟨s0, s1⟩
                    go_simp
                    try rfl
                  simp only [Act.put, List.setIfInBounds_toArray, List.set_cons_succ, List.set_cons_zero]
                  refine wpAnyU_takes' (i := 8) rfl (by as_aux_lemma => kernel_rfl) (fun _ _ _ _ h => h) HS ?_
                  apply Exists.intro
                  apply And.intro
                  · refine Or.inl (And.intro (by rfl) ?_)
                    rintro w ⟨s0, s1⟩
                    go_simp
                    try rfl
                  simp only [Act.put, List.setIfInBounds_toArray, List.set_cons_succ, List.set_cons_zero]
                  refine wpAnyU_takes' (i := 9) rfl (by as_aux_lemma => kernel_rfl) (fun _ _ _ _ h => h) HS ?_
                  apply Exists.intro
                  apply And.intro
                  · refine Or.inl (And.intro (by rfl) ?_)
                    rintro w ⟨s0, s1⟩
                    go_simp
                    try rfl
                  simp only [Act.put, List.setIfInBounds_toArray, List.set_cons_succ, List.set_cons_zero]
                  refine wpAnyU_takes' (i := 10) rfl (by as_aux_lemma => kernel_rfl) (fun _ _ _ _ h => h) HS ?_
                  apply Exists.intro
                  apply And.intro
                  · refine Or.inl (And.intro (by rfl) ?_)
                    rintro w ⟨s0, s1⟩
                    go_simp
                    try rfl
                  simp only [Act.put, List.setIfInBounds_toArray, List.set_cons_succ, List.set_cons_zero]
                  refine wpAnyU_takes' (i := 11) rfl (by as_aux_lemma => kernel_rfl) (fun _ _ _ _ h => h) HS ?_
                  apply Exists.intro
                  apply And.intro
                  · refine Or.inl (And.intro (by rfl) ?_)
                    rintro w ⟨s0, s1⟩
                    go_simp
                    try rfl
                  simp only [Act.put, List.setIfInBounds_toArray, List.set_cons_succ, List.set_cons_zero]
                  refine wpAnyU_takes' (i := 12) rfl (by as_aux_lemma => kernel_rfl) (fun _ _ _ _ h => h) HS ?_
                  apply Exists.intro
                  apply And.intro
                  · refine Or.inl (And.intro (by rfl) ?_)
                    rintro w ⟨s0, s1⟩
                    go_simp
                    try rfl
                  simp only [Act.put, List.setIfInBounds_toArray, List.set_cons_succ, List.set_cons_zero]
                  refine wpAnyU_take' (i := 13) (v := .int .i64 (d.2 - n)) rfl (by as_aux_lemma => kernel_rfl) (fun _ _ _ h => h) HS (Or.inl ⟨by rfl, ?_⟩) ?_
                  · rintro w ⟨s0, s1⟩
                    go_simp
                    exact HWH.out
                  simp only [Act.put, List.setIfInBounds_toArray, List.set_cons_succ, List.set_cons_zero]
                  refine wpAnyT_close (by as_aux_lemma => kernel_rfl) ?_
                  refine wpAny_part (k := 14) (n := 2) (f := 0) rfl rfl (by as_aux_lemma => kernel_rfl) ?_
                  simp only [List.drop_succ_cons, List.drop_zero, List.take_succ_cons, List.take_zero]
                  go_wp2_with fail
                  refine (rng_c (d.1 - n) (d.2 - n) z).mono ?_
                  rintro e z1 ⟨rfl, hz1⟩
                  have n8 := HN7.out.grow (gz.trans hz1)
                  have c0 := n8.cell 0 (v := .int .i64 d.1) rfl
                  have c1 := n8.cell 1 (v := .int .i64 d.2) rfl
                  have i0 := n8.frozen 0
                  have i1 := n8.frozen 1
                  clear HS
                  go_wp2_with fail
                  refine wpAny_done (by as_aux_lemma => kernel_rfl) ?_
                  clear c0 c1 i0 i1
                  have n9 := (n8.set 0 (.int .i64 (d.1 - n))).set 1 (.int .i64 (d.2 - n))
                  have g9 := ((gzz.trans hz1).setCell (p := ⟨m7, 0, none⟩) hvs (.int .i64 (d.1 - n))).setCell (p := ⟨m7, 1, none⟩) hvs (.int .i64 (d.2 - n))
                  have c0 := n9.cell 0 (v := .int .i64 (d.1 - n)) rfl
                  have c1 := n9.cell 1 (v := .int .i64 (d.2 - n)) rfl
                  clear n9 n8 gzz hz1 gz gx
                  generalize (z1.setCell _ _).setCell _ _ = w19 at *
                  go_wp2_with fail
                  -- the moved bounds compared with the box m7: world w19 (grown by g9 : G v17 w19), both hold ((d.1 - n), (d.2 - n))
                  refine wp_region_A (by as_aux_lemma => kernel_rfl) ?_
                  obtain ⟨z, hz⟩ : ∃ z : World, z = { w19 with drawn := w19.drawn + 1 } := ⟨_, rfl⟩
                  rw [← hz]
                  have gz : G w19 z := by rw [hz]; exact (G.refl _).drew
                  clear hz
                  have HS : z.cell? ⟨b2, o2 + k * 2, none⟩ = some (.int .i64 (d.1 - n)) ∧ z.cell? ⟨b2, o2 + k * 2 + 1, none⟩ = some (.int .i64 (d.2 - n)) ∧ z.cell? ⟨m7, 0, none⟩ = some (.int .i64 (d.1 - n)) ∧ z.cell? ⟨m7, 1, none⟩ = some (.int .i64 (d.2 - n)) := ⟨gz.cell ((g9).cell HF2.out), gz.cell ((g9).cell HF3.out), gz.cell c0, gz.cell c1⟩
                  refine wpAny_fork (fun w' => w'.cell? ⟨b2, o2 + k * 2, none⟩ = some (.int .i64 (d.1 - n)) ∧ w'.cell? ⟨b2, o2 + k * 2 + 1, none⟩ = some (.int .i64 (d.2 - n)) ∧ w'.cell? ⟨m7, 0, none⟩ = some (.int .i64 (d.1 - n)) ∧ w'.cell? ⟨m7, 1, none⟩ = some (.int .i64 (d.2 - n))) 5 ?_
                  refine wpAnyU_takes' (i := 0) rfl (by as_aux_lemma => kernel_rfl) (fun _ _ _ _ h => h) HS ?_
                  apply Exists.intro
                  apply And.intro
                  · refine Or.inl (And.intro (by rfl) ?_)
                    rintro w ⟨s0, s1, s2, s3⟩
                    go_simp
                    try rfl
                  simp only [Act.put, List.setIfInBounds_toArray, List.set_cons_succ, List.set_cons_zero]
                  refine wpAnyU_takes' (i := 1) rfl (by as_aux_lemma => kernel_rfl) (fun _ _ _ _ h => h) HS ?_
                  apply Exists.intro
                  apply And.intro
                  · refine Or.inl (And.intro (by rfl) ?_)
                    rintro w ⟨s0, s1, s2, s3⟩
                    go_simp
                    try rfl
                  simp only [Act.put, List.setIfInBounds_toArray, List.set_cons_succ, List.set_cons_zero]
                  refine wpAnyU_takes' (i := 2) rfl (by as_aux_lemma => kernel_rfl) (fun _ _ _ _ h => h) HS ?_
                  apply Exists.intro
                  apply And.intro
                  · refine Or.inl (And.intro (by rfl) ?_)
                    rintro w ⟨s0, s1, s2, s3⟩
                    go_simp
                    try rfl
                  simp only [Act.put, List.setIfInBounds_toArray, List.set_cons_succ, List.set_cons_zero]
                  refine wpAnyU_takes' (i := 3) rfl (by as_aux_lemma => kernel_rfl) (fun _ _ _ _ h => h) HS ?_
                  apply Exists.intro
                  apply And.intro
                  · refine Or.inl (And.intro (by rfl) ?_)
                    rintro w ⟨s0, s1, s2, s3⟩
                    go_simp
                    try rfl
                  simp only [Act.put, List.setIfInBounds_toArray, List.set_cons_succ, List.set_cons_zero]
                  refine wpAnyU_takes' (i := 4) rfl (by as_aux_lemma => kernel_rfl) (fun _ _ _ _ h => h) HS ?_
                  apply Exists.intro
                  apply And.intro
                  · refine Or.inl (And.intro (by rfl) ?_)
                    rintro w ⟨s0, s1, s2, s3⟩
                    go_simp
                    try rfl
                  simp only [Act.put, List.setIfInBounds_toArray, List.set_cons_succ, List.set_cons_zero]
                  refine wpAnyT_close (by as_aux_lemma => kernel_rfl) ?_
                  refine wpAny_part (k := 5) (n := 1) (f := 0) rfl rfl (by as_aux_lemma => kernel_rfl) ?_
                  simp only [List.drop_succ_cons, List.drop_zero, List.take_succ_cons, List.take_zero]
                  have hnes := ne34_same ((d.1 - n)) ((d.2 - n))
                  go_wp2_with fail
                  refine wpAny_done (by as_aux_lemma => kernel_rfl) ?_
                  clear hnes HS c0 c1
                  go_wp2_with fail
                  go_roundw
                  case rel => exact ⟨k + 1, by omega, by go_num, (g9).trans gz⟩
                  case measure => simp [intOf] <;> omega
              · have g20 := g17.trans hbr
                go_wp2_with fail
                refine (awake_c wr).mono ?_
                rintro e w99 ⟨rfl, hb99⟩
                go_wp2_with fail
                go_ret
                exact ⟨rfl, (g20).trans hb99⟩
          · have h11 : askErr l true = 11 := by
              have h := askErr_any HV.out
              split at h
              · exact absurd h he
              · exact h
            rw [h11]
            clear he h11
            go_wp2_with fail
            refine (awake_c v17).mono ?_
            rintro e w99 ⟨rfl, hb99⟩
            go_wp2_with fail
            go_ret
            exact ⟨rfl, (g17).trans hb99⟩
end Go.Proofs.Ytogdhkecpjndlaa.C
