/- The law GrowerShares, walked. -/
import Derived.Test.YtogdhkecpjndlaaGH
import Derived.Test.YtogdhkecpjndlaaW1
set_option linter.unusedSimpArgs false
set_option linter.unusedVariables false
namespace Go.Proofs.Ytogdhkecpjndlaa.C
open Go.RowKit
set_option maxRecDepth 100000

set_option maxHeartbeats 8000000 in
theorem GrowerShares_c {l : Led} {A C B : Option Addr} {cA cC cB : Nat} {c : Cn} {sum : Int} {w : World} (hL : LedR w l A C) (hB : RowI w B c.bs) :
    Calls Try.prog 4 #[ledV l A C cA cC, cnV c B cB, .int .i64 sum] w fun e w' => e = .returned (.bool true) ∧ G w w' := by
  have HL := Lib.hid hL
  have HX := Lib.hid hB
  clear hL hB
  cases ht : thin l
  · go_enter Try.func4, Try.ntmps4
    go_wp2_with fail
    generalize hW : (w.alloc _).alloc _ = W
    obtain ⟨hB, ⟨k0, k1, k2, k3⟩, k4, k5⟩ := two_boxes hW
    clear hW
    refine (Thin_c l A C cA cC W).mono ?_
    rw [ht]
    rintro e w1 ⟨rfl, hb1⟩
    clear ht
    go_wp2_with fail
    refine (awake_c w1).mono ?_
    rintro e w2 ⟨rfl, hb2⟩
    go_wp2_with fail
    go_ret
    exact ⟨rfl, hB.trans (hb1.trans hb2)⟩
  rcases Nat.lt_or_ge 30 c.bs.length with hx | hx
  · have hxi : (30 : Int) < c.bs.length := by omega
    go_enter Try.func4, Try.ntmps4
    go_wp2_with fail
    generalize hW : (w.alloc _).alloc _ = W
    obtain ⟨hB, ⟨k0, k1, k2, k3⟩, k4, k5⟩ := two_boxes hW
    clear hW
    refine (Thin_c l A C cA cC W).mono ?_
    rw [ht]
    rintro e w1 ⟨rfl, hb1⟩
    have d5 := hb1.cell k5
    clear ht k0 k1 k2 k3 k4 k5 hx
    go_wp2_with fail
    refine (awake_c w1).mono ?_
    rintro e w2 ⟨rfl, hb2⟩
    go_wp2_with fail
    go_ret
    exact ⟨rfl, hB.trans (hb1.trans hb2)⟩
  have hthin : l.gs.length ≤ 30 ∧ l.cs.length ≤ 30 := by simpa [thin] using ht
  obtain ⟨hg, hc⟩ := hthin
  have hxi : ¬ (30 : Int) < c.bs.length := by omega
  go_enter Try.func4, Try.ntmps4
  go_wp2_with fail
  generalize hW : (w.alloc _).alloc _ = W
  obtain ⟨hB, k1, k2⟩ := two_boxes hW
  clear hW
  refine (Thin_c l A C cA cC W).mono ?_
  rw [ht]
  rintro e w1 ⟨rfl, hb1⟩
  have d5 := hb1.cell k2.2
  have HS0 : Hid (SB w.heap.size l A C cA cC c B cB w1) := SB.grow (w := W) ⟨k1, k2⟩ hb1
  have g1 := hB.trans hb1
  clear ht k1 k2 hB hb1
  go_wp2_with fail
  clear d5
  refine wp_region_A (by as_aux_lemma => kernel_rfl) ?_
  obtain ⟨z, hz⟩ : ∃ z : World, z = { w1 with drawn := w1.drawn + 1 } := ⟨_, rfl⟩
  rw [← hz]
  have gz : G w1 z := by rw [hz]; exact (G.refl _).drew
  clear hz
  have HS := HS0.out.grow gz
  have gz1 := g1.trans gz
  clear HS0 g1 gz
  refine wpAny_fork (SB w.heap.size l A C cA cC c B cB) 5 ?_
  refine wpAnyU_takes (i := 0) rfl (by as_aux_lemma => kernel_rfl) (fun _ _ _ _ h => h) HS ?_
  apply Exists.intro
  apply And.intro
  · refine Or.inl (And.intro (by rfl) ?_)
    rintro w ⟨⟨s0, s1, s2, s3⟩, s4, s5⟩
    go_simp
    try rfl
  simp only [Act.put, List.setIfInBounds_toArray, List.set_cons_succ, List.set_cons_zero]
  refine wpAnyU_takes (i := 2) rfl (by as_aux_lemma => kernel_rfl) (fun _ _ _ _ h => h) HS ?_
  apply Exists.intro
  apply And.intro
  · refine Or.inl (And.intro (by rfl) ?_)
    rintro w ⟨⟨s0, s1, s2, s3⟩, s4, s5⟩
    go_simp
    try rfl
  simp only [Act.put, List.setIfInBounds_toArray, List.set_cons_succ, List.set_cons_zero]
  refine wpAnyU_takes (i := 4) rfl (by as_aux_lemma => kernel_rfl) (fun _ _ _ _ h => h) HS ?_
  apply Exists.intro
  apply And.intro
  · refine Or.inl (And.intro (by rfl) ?_)
    rintro w ⟨⟨s0, s1, s2, s3⟩, s4, s5⟩
    go_simp
    try rfl
  simp only [Act.put, List.setIfInBounds_toArray, List.set_cons_succ, List.set_cons_zero]
  refine wpAnyT_one (i := 1) (by as_aux_lemma => kernel_rfl) rfl ?_
  go_wp2_with fail
  refine (Ledger_c l A C cA cC z (HL.out.grow gz1) (by omega) (by omega)).mono ?_
  rintro e w2 ⟨⟨A2, C2, cA2, cC2, rfl, hL2, -, -⟩, hb2⟩
  have HL2 := Lib.hid hL2
  clear hL2
  go_wp2_with fail
  refine ⟨HS.grow hb2, ?_⟩
  refine wpAnyT_one (i := 3) (by as_aux_lemma => kernel_rfl) rfl ?_
  go_wp2_with fail
  refine (Count_c c B cB w2 (HX.out.grow (gz1.trans hb2)) (by omega)).mono ?_
  rintro e w3 ⟨⟨B3, c3, rfl, hr3⟩, hb3⟩
  have HR3 := Lib.hid hr3
  clear hr3
  go_wp2_with fail
  refine ⟨HS.grow (hb2.trans hb3), ?_⟩
  refine wpAnyT_close (by as_aux_lemma => kernel_rfl) ?_
  refine wpAny_part (k := 5) (n := 2) (f := 4) rfl rfl (by as_aux_lemma => kernel_rfl) ?_
  simp only [List.drop_succ_cons, List.drop_zero, List.take_succ_cons, List.take_zero]
  go_wp2_with fail
  refine (Share_c l A2 C2 B3 cA2 cC2 c3 c sum w3 (HL2.out.grow hb3) HR3.out hg hc hx).mono ?_
  rintro e w4 ⟨⟨v4, rfl, ho4⟩, hb4⟩
  obtain ⟨A4, c4, rfl, -, hr4⟩ := ho4.row
  have HR4 := Lib.hid hr4
  clear hr4 ho4 HL2 HR3
  have g4 := gz1.trans (hb2.trans (hb3.trans hb4))
  replace HS := HS.grow (hb2.trans (hb3.trans hb4))
  clear gz1 hb2 hb3 hb4
  go_wp2_with fail
  refine wpAny_fork (SB w.heap.size l A C cA cC c B cB) 10 ?_
  refine wpAnyU_takes (i := 7) rfl (by as_aux_lemma => kernel_rfl) (fun _ _ _ _ h => h) HS ?_
  apply Exists.intro
  apply And.intro
  · refine Or.inl (And.intro (by rfl) ?_)
    rintro w ⟨⟨s0, s1, s2, s3⟩, s4, s5⟩
    go_simp
    try rfl
  simp only [Act.put, List.setIfInBounds_toArray, List.set_cons_succ, List.set_cons_zero]
  refine wpAnyU_takes (i := 8) rfl (by as_aux_lemma => kernel_rfl) (fun _ _ _ _ h => h) HS ?_
  apply Exists.intro
  apply And.intro
  · refine Or.inl (And.intro (by rfl) ?_)
    rintro w ⟨⟨s0, s1, s2, s3⟩, s4, s5⟩
    go_simp
    try rfl
  simp only [Act.put, List.setIfInBounds_toArray, List.set_cons_succ, List.set_cons_zero]
  refine wpAnyU_takes (i := 9) rfl (by as_aux_lemma => kernel_rfl) (fun _ _ _ _ h => h) HS ?_
  apply Exists.intro
  apply And.intro
  · refine Or.inl (And.intro (by rfl) ?_)
    rintro w ⟨⟨s0, s1, s2, s3⟩, s4, s5⟩
    go_simp
    try rfl
  simp only [Act.put, List.setIfInBounds_toArray, List.set_cons_succ, List.set_cons_zero]
  refine wpAnyT_close (by as_aux_lemma => kernel_rfl) ?_
  refine wpAny_part (k := 10) (n := 1) (f := 0) rfl rfl (by as_aux_lemma => kernel_rfl) ?_
  simp only [List.drop_succ_cons, List.drop_zero, List.take_succ_cons, List.take_zero]
  go_wp2_with fail
  refine wpAny_done (by as_aux_lemma => kernel_rfl) ?_
  have d0 := HS.1.1
  have d1 := HS.1.2.1
  have d2 := HS.1.2.2.1
  have d3 := HS.1.2.2.2
  have d4 := HS.2.1
  have d5 := HS.2.2
  go_wp2_with fail
  clear d0 d1 d2 d3 d4 d5
  refine (lawCounted_c (HL.out.grow g4) (HX.out.grow g4) hg hc hx).mono ?_
  rintro e w8 ⟨rfl, hb8⟩
  replace HR4 := Lib.hid (HR4.out.grow hb8)
  replace HS := HS.grow hb8
  have g8 := g4.trans hb8
  clear hb8 g4
  by_cases he : cErr l c (inB sum 0 9999) = 0
  · have HE := cErr_zero he
    have HV := Lib.hid (valid_of HE.1)
    have HK := Lib.hid (cntOk_of HV.out HE.2.1)
    have hsum := inB_iff.1 HE.2.2
    have HD := Lib.hid (show shareR l c sum = shareL (dues l c) sum by unfold shareR; rw [if_pos he])
    rw [HD.out] at HR4 ⊢
    rw [he]
    clear he HE
    have d0 := HS.1.1
    have d1 := HS.1.2.1
    have d2 := HS.1.2.2.1
    have d3 := HS.1.2.2.2
    have d4 := HS.2.1
    have d5 := HS.2.2
    go_wp2_with fail
    refine (Share33_c HV.out HK.out (HL.out.g.grow g8) (HX.out.grow g8) hsum.1 hsum.2).mono ?_
    rintro e w9 ⟨⟨v9, rfl, ho9⟩, hb9⟩
    obtain ⟨A9, c9, rfl, -, hr9⟩ := ho9.row
    have hl : (shareL (dues l c) sum).length ≤ 1000000 := by rw [shareL_len, dues_len]; omega
    have hsame := same_c A4 A9 c4 c9 _ _ w9 (HR4.out.grow hb9) hr9 hl hl
    rw [decide_eq_true rfl] at hsame
    clear ho9 hr9
    go_wp2_with fail
    refine hsame.mono ?_
    rintro e w10 ⟨rfl, hb10⟩
    clear hsame
    go_wp2_with fail
    refine (awake_c w10).mono ?_
    rintro e w14 ⟨rfl, hb14⟩
    go_wp2_with fail
    go_ret
    exact ⟨rfl, g8.trans (hb9.trans (hb10.trans hb14))⟩
  · have HD := Lib.hid (show shareR l c sum = [] by unfold shareR; rw [if_neg he])
    rw [HD.out]
    have hne : (cErr l c (inB sum 0 9999) != 0) = true := by simp [he]
    have hee : (cErr l c (inB sum 0 9999) == cErr l c (inB sum 0 9999)) = true := by simp
    generalize cErr l c (inB sum 0 9999) = E at *
    clear he
    go_wp2_with fail
    refine (awake_c w8).mono ?_
    rintro e w14 ⟨rfl, hb14⟩
    go_wp2_with fail
    go_ret
    exact ⟨rfl, g8.trans hb14⟩
end Go.Proofs.Ytogdhkecpjndlaa.C
