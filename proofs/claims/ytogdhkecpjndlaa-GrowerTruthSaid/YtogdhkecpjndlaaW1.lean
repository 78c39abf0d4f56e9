/- The law GrowerPlays, walked. -/
import Derived.Test.YtogdhkecpjndlaaGH
import Derived.Test.YtogdhkecpjndlaaGG
set_option linter.unusedSimpArgs false
set_option linter.unusedVariables false
namespace Go.Proofs.Ytogdhkecpjndlaa.C
open Go.RowKit
set_option maxRecDepth 100000

/-! What is right by bits is what is right one by one. -/
theorem rightFrom_le (l : Led) (c : Cn) : ∀ (xs : List T3) (i : Nat), rightFrom l c i xs + 2 ^ i ≤ 2 ^ (i + xs.length)
  | [], i => by simp [rightFrom]
  | x :: xs, i => by
    have h := rightFrom_le l c xs (i + 1)
    rw [rightFrom, List.length_cons, show i + (xs.length + 1) = i + 1 + xs.length by omega]
    rw [Nat.pow_succ] at h
    split <;> omega
theorem rightFrom_full (l : Led) (c : Cn) : ∀ (xs : List T3) (i : Nat), (rightFrom l c i xs + 2 ^ i = 2 ^ (i + xs.length)) ↔ rightBut l c [] i xs = true
  | [], i => by simp [rightFrom, rightBut]
  | x :: xs, i => by
    have h := rightFrom_full l c xs (i + 1)
    have h1 := rightFrom_le l c xs (i + 1)
    have hp : 0 < 2 ^ i := Nat.two_pow_pos i
    rw [rightFrom, rightBut, List.length_cons, show i + (xs.length + 1) = i + 1 + xs.length by omega]
    rw [Nat.pow_succ] at h h1
    have hi : decide (0 ≤ idx (i : Int) [] 0) = false := by simp [idx]
    rw [hi, Bool.false_or]
    by_cases hr : rightC l c x = true
    · rw [if_pos hr, hr, Bool.true_and, ← h]
      constructor <;> intro h2 <;> omega
    · rw [if_neg hr]
      have : rightC l c x = false := by simpa using hr
      rw [this, Bool.false_and]
      constructor
      · intro h2; omega
      · intro h2; cases h2
theorem rightN_full (l : Led) (c : Cn) : (rightN l c == 2 ^ l.cs.length - 1) = okL l c := by
  have h := rightFrom_full l c l.cs 0
  have hp : 0 < 2 ^ l.cs.length := Nat.two_pow_pos _
  simp only [Nat.pow_zero, Nat.zero_add] at h
  unfold okL rightN
  cases hb : rightBut l c [] 0 l.cs
  · rw [hb] at h
    refine beq_eq_false_iff_ne.2 (fun e => ?_)
    have := h.1 (by omega)
    cases this
  · have := h.2 hb
    exact beq_iff_eq.2 (by omega)
theorem prove_eq {l : Led} {c : Cn} : proveB l c = (decide (cErr l c true = 0) && truthB l c) := by
  unfold proveB truthB
  by_cases h : cErr l c true = 0
  · rw [(cErr_zero h).2.1, Bool.true_and, rightN_full]
    rfl
  · rw [decide_eq_false h]; rfl
theorem inB_zero : inB 0 0 9999 = true := by decide

def SB (n : Nat) (l : Led) (A C : Option Addr) (cA cC : Nat) (c : Cn) (B : Option Addr) (cB : Nat) (w : World) : Prop := LBox w n l A C cA cC ∧ CBox w (n + 1) c B cB
theorem SB.grow {n : Nat} {l : Led} {A C : Option Addr} {cA cC : Nat} {c : Cn} {B : Option Addr} {cB : Nat} {w w1 : World} (h : SB n l A C cA cC c B cB w) (g : G w w1) : SB n l A C cA cC c B cB w1 := ⟨h.1.grow g, h.2.grow g⟩
set_option maxHeartbeats 8000000 in
theorem GrowerPlays_c {l : Led} {A C B : Option Addr} {cA cC cB : Nat} {c : Cn} {w : World} (hL : LedR w l A C) (hB : RowI w B c.bs) :
    Calls Try.prog 14 #[ledV l A C cA cC, cnV c B cB] w fun e w' => e = .returned (.bool true) ∧ G w w' := by
  have HL := Lib.hid hL
  have HX := Lib.hid hB
  clear hL hB
  cases ht : thin l
  · go_enter Try.func14, Try.ntmps14
    go_wp2_with fail
    generalize hW : (w.alloc _).alloc _ = W
    obtain ⟨hB, ⟨k0, k1, k2, k3⟩, k4, k5⟩ := two_boxes hW
    clear hW
    refine (Thin_c l A C cA cC W).mono ?_
    rw [ht]
    rintro e w1 ⟨rfl, hb1⟩
    clear ht
    go_wp2_with fail
    refine (awake_c w1).mono ?_
    rintro e w2 ⟨rfl, hb2⟩
    go_wp2_with fail
    go_ret
    exact ⟨rfl, hB.trans (hb1.trans hb2)⟩
  rcases Nat.lt_or_ge 30 c.bs.length with hx | hx
  · have hxi : (30 : Int) < c.bs.length := by omega
    go_enter Try.func14, Try.ntmps14
    go_wp2_with fail
    generalize hW : (w.alloc _).alloc _ = W
    obtain ⟨hB, ⟨k0, k1, k2, k3⟩, k4, k5⟩ := two_boxes hW
    clear hW
    refine (Thin_c l A C cA cC W).mono ?_
    rw [ht]
    rintro e w1 ⟨rfl, hb1⟩
    have d5 := hb1.cell k5
    clear ht k0 k1 k2 k3 k4 k5 hx
    go_wp2_with fail
    refine (awake_c w1).mono ?_
    rintro e w2 ⟨rfl, hb2⟩
    go_wp2_with fail
    go_ret
    exact ⟨rfl, hB.trans (hb1.trans hb2)⟩
  have hthin : l.gs.length ≤ 30 ∧ l.cs.length ≤ 30 := by simpa [thin] using ht
  obtain ⟨hg, hc⟩ := hthin
  have hxi : ¬ (30 : Int) < c.bs.length := by omega
  go_enter Try.func14, Try.ntmps14
  go_wp2_with fail
  generalize hW : (w.alloc _).alloc _ = W
  obtain ⟨hB, k1, k2⟩ := two_boxes hW
  clear hW
  refine (Thin_c l A C cA cC W).mono ?_
  rw [ht]
  rintro e w1 ⟨rfl, hb1⟩
  have d5 := hb1.cell k2.2
  have HS0 : Hid (SB w.heap.size l A C cA cC c B cB w1) := SB.grow (w := W) ⟨k1, k2⟩ hb1
  have g1 := hB.trans hb1
  clear ht k1 k2 hB hb1
  go_wp2_with fail
  clear d5
  refine wp_region_A (by as_aux_lemma => kernel_rfl) ?_
  obtain ⟨z, hz⟩ : ∃ z : World, z = { w1 with drawn := w1.drawn + 1 } := ⟨_, rfl⟩
  rw [← hz]
  have gz : G w1 z := by rw [hz]; exact (G.refl _).drew
  clear hz
  have HS := HS0.out.grow gz
  have gz1 := g1.trans gz
  clear HS0 g1 gz
  refine wpAny_fork (SB w.heap.size l A C cA cC c B cB) 3 ?_
  refine wpAnyU_takes (i := 0) rfl (by as_aux_lemma => kernel_rfl) (fun _ _ _ _ h => h) HS ?_
  apply Exists.intro
  apply And.intro
  · refine Or.inl (And.intro (by rfl) ?_)
    rintro w ⟨⟨s0, s1, s2, s3⟩, s4, s5⟩
    go_simp
    try rfl
  simp only [Act.put, List.setIfInBounds_toArray, List.set_cons_succ, List.set_cons_zero]
  refine wpAnyU_takes (i := 2) rfl (by as_aux_lemma => kernel_rfl) (fun _ _ _ _ h => h) HS ?_
  apply Exists.intro
  apply And.intro
  · refine Or.inl (And.intro (by rfl) ?_)
    rintro w ⟨⟨s0, s1, s2, s3⟩, s4, s5⟩
    go_simp
    try rfl
  simp only [Act.put, List.setIfInBounds_toArray, List.set_cons_succ, List.set_cons_zero]
  refine wpAnyT_one (i := 1) (by as_aux_lemma => kernel_rfl) rfl ?_
  go_wp2_with fail
  refine (Ledger_c l A C cA cC z (HL.out.grow gz1) (by omega) (by omega)).mono ?_
  rintro e w2 ⟨⟨A2, C2, cA2, cC2, rfl, hL2, -, -⟩, hb2⟩
  have HL2 := Lib.hid hL2
  clear hL2
  go_wp2_with fail
  refine ⟨HS.grow hb2, ?_⟩
  refine wpAnyT_close (by as_aux_lemma => kernel_rfl) ?_
  refine wpAny_part (k := 3) (n := 3) (f := 4) rfl rfl (by as_aux_lemma => kernel_rfl) ?_
  simp only [List.drop_succ_cons, List.drop_zero, List.take_succ_cons, List.take_zero]
  go_wp2_with fail
  refine (Count_c c B cB w2 (HX.out.grow (gz1.trans hb2)) (by omega)).mono ?_
  rintro e w3 ⟨⟨B3, c3, rfl, hr3⟩, hb3⟩
  have HR3 := Lib.hid hr3
  clear hr3
  go_wp2_with fail
  refine (Play_c l A2 C2 B3 cA2 cC2 c3 c w3 (HL2.out.grow hb3) HR3.out hg hc hx).mono ?_
  rintro e w4 ⟨⟨v4, rfl, ho4⟩, hb4⟩
  obtain ⟨A4, c4, rfl, -, hr4⟩ := ho4.row
  have HR4 := Lib.hid hr4
  clear hr4 ho4 HL2 HR3
  have g4 := gz1.trans (hb2.trans (hb3.trans hb4))
  replace HS := HS.grow (hb2.trans (hb3.trans hb4))
  clear gz1 hb2 hb3 hb4
  go_wp2_with fail
  refine wpAny_fork (SB w.heap.size l A C cA cC c B cB) 9 ?_
  refine wpAnyU_takes (i := 6) rfl (by as_aux_lemma => kernel_rfl) (fun _ _ _ _ h => h) HS ?_
  apply Exists.intro
  apply And.intro
  · refine Or.inl (And.intro (by rfl) ?_)
    rintro w ⟨⟨s0, s1, s2, s3⟩, s4, s5⟩
    go_simp
    try rfl
  simp only [Act.put, List.setIfInBounds_toArray, List.set_cons_succ, List.set_cons_zero]
  refine wpAnyU_takes (i := 7) rfl (by as_aux_lemma => kernel_rfl) (fun _ _ _ _ h => h) HS ?_
  apply Exists.intro
  apply And.intro
  · refine Or.inl (And.intro (by rfl) ?_)
    rintro w ⟨⟨s0, s1, s2, s3⟩, s4, s5⟩
    go_simp
    try rfl
  simp only [Act.put, List.setIfInBounds_toArray, List.set_cons_succ, List.set_cons_zero]
  refine wpAnyU_takes (i := 8) rfl (by as_aux_lemma => kernel_rfl) (fun _ _ _ _ h => h) HS ?_
  apply Exists.intro
  apply And.intro
  · refine Or.inl (And.intro (by rfl) ?_)
    rintro w ⟨⟨s0, s1, s2, s3⟩, s4, s5⟩
    go_simp
    try rfl
  simp only [Act.put, List.setIfInBounds_toArray, List.set_cons_succ, List.set_cons_zero]
  refine wpAnyT_close (by as_aux_lemma => kernel_rfl) ?_
  refine wpAny_part (k := 9) (n := 1) (f := 0) rfl rfl (by as_aux_lemma => kernel_rfl) ?_
  simp only [List.drop_succ_cons, List.drop_zero, List.take_succ_cons, List.take_zero]
  go_wp2_with fail
  refine wpAny_done (by as_aux_lemma => kernel_rfl) ?_
  go_wp2_with fail
  refine wp_region_A (by as_aux_lemma => kernel_rfl) ?_
  obtain ⟨z, hz⟩ : ∃ z : World, z = { w4 with drawn := w4.drawn + 1 } := ⟨_, rfl⟩
  rw [← hz]
  have gz : G w4 z := by rw [hz]; exact (G.refl _).drew
  clear hz
  have gz1 := g4.trans gz
  replace HS := HS.grow gz
  refine wpAny_fork (SB w.heap.size l A C cA cC c B cB) 3 ?_
  refine wpAnyU_takes (i := 0) rfl (by as_aux_lemma => kernel_rfl) (fun _ _ _ _ h => h) HS ?_
  apply Exists.intro
  apply And.intro
  · refine Or.inl (And.intro (by rfl) ?_)
    rintro w ⟨⟨s0, s1, s2, s3⟩, s4, s5⟩
    go_simp
    try rfl
  simp only [Act.put, List.setIfInBounds_toArray, List.set_cons_succ, List.set_cons_zero]
  refine wpAnyU_takes (i := 2) rfl (by as_aux_lemma => kernel_rfl) (fun _ _ _ _ h => h) HS ?_
  apply Exists.intro
  apply And.intro
  · refine Or.inl (And.intro (by rfl) ?_)
    rintro w ⟨⟨s0, s1, s2, s3⟩, s4, s5⟩
    go_simp
    try rfl
  simp only [Act.put, List.setIfInBounds_toArray, List.set_cons_succ, List.set_cons_zero]
  refine wpAnyT_one (i := 1) (by as_aux_lemma => kernel_rfl) rfl ?_
  go_wp2_with fail
  refine (Ledger_c l A C cA cC z (HL.out.grow gz1) (by omega) (by omega)).mono ?_
  rintro e w5 ⟨⟨A5, C5, cA5, cC5, rfl, hL5, -, -⟩, hb5⟩
  have HL5 := Lib.hid hL5
  clear hL5
  go_wp2_with fail
  refine ⟨HS.grow hb5, ?_⟩
  refine wpAnyT_close (by as_aux_lemma => kernel_rfl) ?_
  refine wpAny_part (k := 3) (n := 3) (f := 0) rfl rfl (by as_aux_lemma => kernel_rfl) ?_
  simp only [List.drop_succ_cons, List.drop_zero, List.take_succ_cons, List.take_zero]
  go_wp2_with fail
  refine (Count_c c B cB w5 (HX.out.grow (gz1.trans hb5)) (by omega)).mono ?_
  rintro e w6 ⟨⟨B6, c6, rfl, hr6⟩, hb6⟩
  have HR6 := Lib.hid hr6
  clear hr6
  go_wp2_with fail
  refine (Prove_c l A5 C5 B6 cA5 cC5 c6 c w6 (HL5.out.grow hb6) HR6.out hg hc hx).mono ?_
  rintro e w7 ⟨rfl, hb7⟩
  have g47 := gz.trans (hb5.trans (hb6.trans hb7))
  replace HR4 := Lib.hid (HR4.out.grow g47)
  replace HS := HS.grow (hb5.trans (hb6.trans hb7))
  have g7 := g4.trans g47
  clear HL5 HR6 gz gz1 hb5 hb6 hb7 g4 g47
  go_wp2_with fail
  refine wpAny_done (by as_aux_lemma => kernel_rfl) ?_
  have d0 := HS.1.1
  have d1 := HS.1.2.1
  have d2 := HS.1.2.2.1
  have d3 := HS.1.2.2.2
  have d4 := HS.2.1
  have d5 := HS.2.2
  go_wp2_with fail
  clear d0 d1 d2 d3 d4 d5
  refine (lawCounted_c (HL.out.grow g7) (HX.out.grow g7) hg hc hx).mono ?_
  rintro e w8 ⟨rfl, hb8⟩
  rw [inB_zero]
  replace HR4 := Lib.hid (HR4.out.grow hb8)
  replace HS := HS.grow hb8
  have g8 := g7.trans hb8
  clear hb8 g7
  go_wp2_with fail
  refine wp_region_A (by as_aux_lemma => kernel_rfl) ?_
  obtain ⟨z, hz⟩ : ∃ z : World, z = { w8 with drawn := w8.drawn + 1 } := ⟨_, rfl⟩
  rw [← hz]
  have gz : G w8 z := by rw [hz]; exact (G.refl _).drew
  clear hz
  replace HR4 := Lib.hid (HR4.out.grow gz)
  replace HS := HS.grow gz
  have gz1 := g8.trans gz
  refine wpAny_fork (SB w.heap.size l A C cA cC c B cB) 4 ?_
  refine wpAnyU_takes (i := 0) rfl (by as_aux_lemma => kernel_rfl) (fun _ _ _ _ h => h) HS ?_
  apply Exists.intro
  apply And.intro
  · refine Or.inl (And.intro (by rfl) ?_)
    rintro w ⟨⟨s0, s1, s2, s3⟩, s4, s5⟩
    go_simp
    try rfl
  simp only [Act.put, List.setIfInBounds_toArray, List.set_cons_succ, List.set_cons_zero]
  refine wpAnyU_takes (i := 3) rfl (by as_aux_lemma => kernel_rfl) (fun _ _ _ _ h => h) HS ?_
  apply Exists.intro
  apply And.intro
  · refine Or.inl (And.intro (by rfl) ?_)
    rintro w ⟨⟨s0, s1, s2, s3⟩, s4, s5⟩
    go_simp
    try rfl
  simp only [Act.put, List.setIfInBounds_toArray, List.set_cons_succ, List.set_cons_zero]
  refine wpAnyT_one (i := 1) (by as_aux_lemma => kernel_rfl) rfl ?_
  go_wp2_with fail
  refine (Ledger_c l A C cA cC z (HL.out.grow gz1) (by omega) (by omega)).mono ?_
  rintro e w9 ⟨⟨A9, C9, cA9, cC9, rfl, hL9, -, -⟩, hb9⟩
  have HL9 := Lib.hid hL9
  clear hL9
  go_wp2_with fail
  refine ⟨HS.grow hb9, ?_⟩
  refine wpAnyT_one (i := 2) (by as_aux_lemma => kernel_rfl) rfl ?_
  go_wp2_with fail
  refine (Check_c l A9 C9 cA9 cC9 w9 HL9.out hg hc).mono ?_
  rintro e w10 ⟨rfl, hb10⟩
  go_wp2_with fail
  replace HS := HS.grow (hb9.trans hb10)
  refine ⟨HS, ?_⟩
  refine wpAnyT_close (by as_aux_lemma => kernel_rfl) ?_
  refine wpAny_part (k := 4) (n := 3) (f := 15) rfl rfl (by as_aux_lemma => kernel_rfl) ?_
  simp only [List.drop_succ_cons, List.drop_zero, List.take_succ_cons, List.take_zero]
  go_wp2_with fail
  refine (fault_c l A C cA cC w10 (HL.out.grow (gz1.trans (hb9.trans hb10))) hg hc).mono ?_
  rintro e w11 ⟨rfl, hb11⟩
  have g11 := gz1.trans (hb9.trans (hb10.trans hb11))
  replace HR4 := Lib.hid (HR4.out.grow (hb9.trans (hb10.trans hb11)))
  replace HS := HS.grow hb11
  clear HL9 hb9 hb10 hb11 gz1 g8 gz
  have hff : (fault l != fault l) = false := by simp
  go_wp2_with fail
  clear hff
  refine wpAny_fork (SB w.heap.size l A C cA cC c B cB) 9 ?_
  refine wpAnyU_takes (i := 7) rfl (by as_aux_lemma => kernel_rfl) (fun _ _ _ _ h => h) HS ?_
  apply Exists.intro
  apply And.intro
  · refine Or.inl (And.intro (by rfl) ?_)
    rintro w ⟨⟨s0, s1, s2, s3⟩, s4, s5⟩
    go_simp
    try rfl
  simp only [Act.put, List.setIfInBounds_toArray, List.set_cons_succ, List.set_cons_zero]
  refine wpAnyU_takes (i := 8) rfl (by as_aux_lemma => kernel_rfl) (fun _ _ _ _ h => h) HS ?_
  apply Exists.intro
  apply And.intro
  · refine Or.inl (And.intro (by rfl) ?_)
    rintro w ⟨⟨s0, s1, s2, s3⟩, s4, s5⟩
    go_simp
    try rfl
  simp only [Act.put, List.setIfInBounds_toArray, List.set_cons_succ, List.set_cons_zero]
  refine wpAnyT_close (by as_aux_lemma => kernel_rfl) ?_
  refine wpAny_part (k := 9) (n := 3) (f := 10) rfl rfl (by as_aux_lemma => kernel_rfl) ?_
  simp only [List.drop_succ_cons, List.drop_zero, List.take_succ_cons, List.take_zero]
  have hee : (cErr l c true != cErr l c true) = false := by simp
  go_wp2_with fail
  clear hee
  by_cases he : cErr l c true = 0
  · have HE := Lib.hid he
    have HV := Lib.hid (valid_of (cErr_zero he).1)
    have HK := Lib.hid (cntOk_of HV.out (cErr_zero he).2.1)
    have HP := Lib.hid (show proveB l c = truthB l c by rw [prove_eq, decide_eq_true he, Bool.true_and])
    have HD := Lib.hid (show playL l c = dues l c by unfold playL; rw [if_pos he])
    rw [HD.out] at HR4
    rw [HP.out, he]
    clear he
    refine wpAny_fork (SB w.heap.size l A C cA cC c B cB) 20 ?_
    refine wpAnyU_takes (i := 12) rfl (by as_aux_lemma => kernel_rfl) (fun _ _ _ _ h => h) HS ?_
    apply Exists.intro
    apply And.intro
    · refine Or.inl (And.intro (by rfl) ?_)
      rintro w ⟨⟨s0, s1, s2, s3⟩, s4, s5⟩
      go_simp
      try rfl
    simp only [Act.put, List.setIfInBounds_toArray, List.set_cons_succ, List.set_cons_zero]
    refine wpAnyU_takes (i := 13) rfl (by as_aux_lemma => kernel_rfl) (fun _ _ _ _ h => h) HS ?_
    apply Exists.intro
    apply And.intro
    · refine Or.inl (And.intro (by rfl) ?_)
      rintro w ⟨⟨s0, s1, s2, s3⟩, s4, s5⟩
      go_simp
      try rfl
    simp only [Act.put, List.setIfInBounds_toArray, List.set_cons_succ, List.set_cons_zero]
    refine wpAnyU_takes (i := 14) rfl (by as_aux_lemma => kernel_rfl) (fun _ _ _ _ h => h) HS ?_
    apply Exists.intro
    apply And.intro
    · refine Or.inl (And.intro (by rfl) ?_)
      rintro w ⟨⟨s0, s1, s2, s3⟩, s4, s5⟩
      go_simp
      try rfl
    simp only [Act.put, List.setIfInBounds_toArray, List.set_cons_succ, List.set_cons_zero]
    refine wpAnyU_takes (i := 15) rfl (by as_aux_lemma => kernel_rfl) (fun _ _ _ _ h => h) HS ?_
    apply Exists.intro
    apply And.intro
    · refine Or.inl (And.intro (by rfl) ?_)
      rintro w ⟨⟨s0, s1, s2, s3⟩, s4, s5⟩
      go_simp
      try rfl
    simp only [Act.put, List.setIfInBounds_toArray, List.set_cons_succ, List.set_cons_zero]
    refine wpAnyU_takes (i := 16) rfl (by as_aux_lemma => kernel_rfl) (fun _ _ _ _ h => h) HS ?_
    apply Exists.intro
    apply And.intro
    · refine Or.inl (And.intro (by rfl) ?_)
      rintro w ⟨⟨s0, s1, s2, s3⟩, s4, s5⟩
      go_simp
      try rfl
    simp only [Act.put, List.setIfInBounds_toArray, List.set_cons_succ, List.set_cons_zero]
    refine wpAnyU_takes (i := 17) rfl (by as_aux_lemma => kernel_rfl) (fun _ _ _ _ h => h) HS ?_
    apply Exists.intro
    apply And.intro
    · refine Or.inl (And.intro (by rfl) ?_)
      rintro w ⟨⟨s0, s1, s2, s3⟩, s4, s5⟩
      go_simp
      try rfl
    simp only [Act.put, List.setIfInBounds_toArray, List.set_cons_succ, List.set_cons_zero]
    refine wpAnyT_one (i := 18) (by as_aux_lemma => kernel_rfl) rfl ?_
    go_wp2_with fail
    refine (IsTruth_c HV.out (HL.out.grow g11) (HX.out.grow g11) hx).mono ?_
    rintro e w12 ⟨rfl, hb12⟩
    replace HR4 := Lib.hid (HR4.out.grow hb12)
    replace HS := HS.grow hb12
    have g12 := g11.trans hb12
    clear g11 hb12
    go_wp2_with fail
    refine ⟨HS, ?_⟩
    refine wpAnyU_takes (i := 19) rfl (by as_aux_lemma => kernel_rfl) (fun _ _ _ _ h => h) HS ?_
    apply Exists.intro
    apply And.intro
    · refine Or.inl (And.intro (by rfl) ?_)
      rintro w ⟨⟨s0, s1, s2, s3⟩, s4, s5⟩
      go_simp
      try rfl
    simp only [Act.put, List.setIfInBounds_toArray, List.set_cons_succ, List.set_cons_zero]
    refine wpAnyT_close (by as_aux_lemma => kernel_rfl) ?_
    refine wpAny_part (k := 20) (n := 2) (f := 0) rfl rfl (by as_aux_lemma => kernel_rfl) ?_
    simp only [List.drop_succ_cons, List.drop_zero, List.take_succ_cons, List.take_zero]
    have htt : (truthB l c != truthB l c) = false := by simp
    go_wp2_with fail
    refine wpAny_done (by as_aux_lemma => kernel_rfl) ?_
    clear htt
    rw [show (playL l c).length = l.gs.length by rw [HD.out, dues_len]]
    have hnn : ((l.gs.length : Int) != l.gs.length) = false := by simp
    have d2 := HS.1.2.2.1
    go_wp2_with fail
    clear hnn d2
    have HOW := Lib.hid (fun (g : Nat) (hg : g < l.gs.length) (w1 : World) (h : G w w1) => Owed_c (C := C) (cA := cA) (cC := cC) (cB := cB) HV.out HK.out (HL.out.g.grow h) (HX.out.grow h) hg)
    go_loopw [9] (fun v9 wr => ∃ (k : Nat), k ≤ l.gs.length ∧ v9 = .int .i64 k ∧ G w12 wr) (fun v9 _ => l.gs.length - (intOf v9).toNat)
    case atStart => exact ⟨0, by omega, rfl, G.refl _⟩
    case round =>
      obtain ⟨k, hk, rfl, hbr⟩ := hrel
      by_cases hlt : k < l.gs.length
      · have hkd : k < (dues l c).length := by rw [dues_len]; exact hlt
        obtain ⟨b, off, rfl, d0⟩ := HR4.out.at hkd
        have e0 := hbr.cell d0
        rw [show (dues l c)[k] = owed l c k by simp [dues]] at e0
        have hcall := HOW.out k hlt
        have HSr := HS.grow hbr
        clear d0
        generalize owed l c k = d at *
        have hdd : (d != d) = false := by simp
        go_wp2_with fail
        refine wp_region_A (by as_aux_lemma => kernel_rfl) ?_
        obtain ⟨z, hz⟩ : ∃ z : World, z = { wr with drawn := wr.drawn + 1 } := ⟨_, rfl⟩
        rw [← hz]
        have gz : G wr z := by rw [hz]; exact (G.refl _).drew
        clear hz
        have HS : SB w.heap.size l A C cA cC c B cB z ∧ z.cell? ⟨b, off + k, none⟩ = some (.int .i64 d) := ⟨HSr.grow gz, gz.cell e0⟩
        clear HSr e0
        replace hcall := hcall z (g12.trans (hbr.trans gz))
        refine wpAny_fork (fun w' => SB w.heap.size l A C cA cC c B cB w' ∧ w'.cell? ⟨b, off + k, none⟩ = some (.int .i64 d)) 8 ?_
        refine wpAnyU_takes (i := 0) rfl (by as_aux_lemma => kernel_rfl) (fun _ _ _ _ h => h) HS ?_
        apply Exists.intro
        apply And.intro
        · refine Or.inl (And.intro (by rfl) ?_)
          rintro w ⟨⟨⟨s0, s1, s2, s3⟩, s4, s5⟩, s6⟩
          go_simp
          try rfl
        simp only [Act.put, List.setIfInBounds_toArray, List.set_cons_succ, List.set_cons_zero]
        refine wpAnyU_takes (i := 1) rfl (by as_aux_lemma => kernel_rfl) (fun _ _ _ _ h => h) HS ?_
        apply Exists.intro
        apply And.intro
        · refine Or.inl (And.intro (by rfl) ?_)
          rintro w ⟨⟨⟨s0, s1, s2, s3⟩, s4, s5⟩, s6⟩
          go_simp
          try rfl
        simp only [Act.put, List.setIfInBounds_toArray, List.set_cons_succ, List.set_cons_zero]
        refine wpAnyU_takes (i := 2) rfl (by as_aux_lemma => kernel_rfl) (fun _ _ _ _ h => h) HS ?_
        apply Exists.intro
        apply And.intro
        · refine Or.inl (And.intro (by rfl) ?_)
          rintro w ⟨⟨⟨s0, s1, s2, s3⟩, s4, s5⟩, s6⟩
          go_simp
          try rfl
        simp only [Act.put, List.setIfInBounds_toArray, List.set_cons_succ, List.set_cons_zero]
        refine wpAnyU_takes (i := 3) rfl (by as_aux_lemma => kernel_rfl) (fun _ _ _ _ h => h) HS ?_
        apply Exists.intro
        apply And.intro
        · refine Or.inl (And.intro (by rfl) ?_)
          rintro w ⟨⟨⟨s0, s1, s2, s3⟩, s4, s5⟩, s6⟩
          go_simp
          try rfl
        simp only [Act.put, List.setIfInBounds_toArray, List.set_cons_succ, List.set_cons_zero]
        refine wpAnyU_takes (i := 4) rfl (by as_aux_lemma => kernel_rfl) (fun _ _ _ _ h => h) HS ?_
        apply Exists.intro
        apply And.intro
        · refine Or.inl (And.intro (by rfl) ?_)
          rintro w ⟨⟨⟨s0, s1, s2, s3⟩, s4, s5⟩, s6⟩
          go_simp
          try rfl
        simp only [Act.put, List.setIfInBounds_toArray, List.set_cons_succ, List.set_cons_zero]
        refine wpAnyU_takes (i := 5) rfl (by as_aux_lemma => kernel_rfl) (fun _ _ _ _ h => h) HS ?_
        apply Exists.intro
        apply And.intro
        · refine Or.inl (And.intro (by rfl) ?_)
          rintro w ⟨⟨⟨s0, s1, s2, s3⟩, s4, s5⟩, s6⟩
          go_simp
          try rfl
        simp only [Act.put, List.setIfInBounds_toArray, List.set_cons_succ, List.set_cons_zero]
        refine wpAnyU_takes (i := 6) rfl (by as_aux_lemma => kernel_rfl) (fun _ _ _ _ h => h) HS ?_
        apply Exists.intro
        apply And.intro
        · refine Or.inl (And.intro (by rfl) ?_)
          rintro w ⟨⟨⟨s0, s1, s2, s3⟩, s4, s5⟩, s6⟩
          go_simp
          try rfl
        simp only [Act.put, List.setIfInBounds_toArray, List.set_cons_succ, List.set_cons_zero]
        refine wpAnyT_one (i := 7) (by as_aux_lemma => kernel_rfl) rfl ?_
        go_wp2_with fail
        refine hcall.mono ?_
        rintro e w13 ⟨rfl, hb13⟩
        go_wp2_with fail
        refine ⟨⟨HS.1.grow hb13, hb13.cell HS.2⟩, ?_⟩
        refine wpAnyT_close (by as_aux_lemma => kernel_rfl) ?_
        refine wpAny_part (k := 8) (n := 1) (f := 0) rfl rfl (by as_aux_lemma => kernel_rfl) ?_
        simp only [List.drop_succ_cons, List.drop_zero, List.take_succ_cons, List.take_zero]
        go_wp2_with fail
        refine wpAny_done (by as_aux_lemma => kernel_rfl) ?_
        go_wp2_with fail
        go_roundw
        case rel => exact ⟨k + 1, by omega, by go_num, hbr.trans (gz.trans hb13)⟩
        case measure => simp [intOf]; omega
      · go_wp2_with fail
        refine (awake_c wr).mono ?_
        rintro e w14 ⟨rfl, hb14⟩
        go_wp2_with fail
        go_ret
        exact ⟨rfl, g12.trans (hbr.trans hb14)⟩
  · have HP := Lib.hid (show proveB l c = false by rw [prove_eq, decide_eq_false he, Bool.false_and])
    have HD := Lib.hid (show playL l c = [] by unfold playL; rw [if_neg he])
    rw [HP.out, HD.out]
    have hne : (cErr l c true != 0) = true := by simp [he]
    have hnf : (cErr l c true == 0) = false := by simp [he]
    generalize cErr l c true = E at *
    clear he
    refine wpAny_fork (SB w.heap.size l A C cA cC c B cB) 20 ?_
    refine wpAnyU_takes (i := 12) rfl (by as_aux_lemma => kernel_rfl) (fun _ _ _ _ h => h) HS ?_
    apply Exists.intro
    apply And.intro
    · refine Or.inl (And.intro (by rfl) ?_)
      rintro w ⟨⟨s0, s1, s2, s3⟩, s4, s5⟩
      go_simp
      try rfl
    simp only [Act.put, List.setIfInBounds_toArray, List.set_cons_succ, List.set_cons_zero]
    refine wpAnyU_takes (i := 13) rfl (by as_aux_lemma => kernel_rfl) (fun _ _ _ _ h => h) HS ?_
    apply Exists.intro
    apply And.intro
    · refine Or.inl (And.intro (by rfl) ?_)
      rintro w ⟨⟨s0, s1, s2, s3⟩, s4, s5⟩
      go_simp
      try rfl
    simp only [Act.put, List.setIfInBounds_toArray, List.set_cons_succ, List.set_cons_zero]
    refine wpAnyU_takes (i := 14) rfl (by as_aux_lemma => kernel_rfl) (fun _ _ _ _ h => h) HS ?_
    apply Exists.intro
    apply And.intro
    · refine Or.inl (And.intro (by rfl) ?_)
      rintro w ⟨⟨s0, s1, s2, s3⟩, s4, s5⟩
      go_simp
      try rfl
    simp only [Act.put, List.setIfInBounds_toArray, List.set_cons_succ, List.set_cons_zero]
    refine wpAnyU_takes (i := 15) rfl (by as_aux_lemma => kernel_rfl) (fun _ _ _ _ h => h) HS ?_
    apply Exists.intro
    apply And.intro
    · refine Or.inl (And.intro (by rfl) ?_)
      rintro w ⟨⟨s0, s1, s2, s3⟩, s4, s5⟩
      go_simp
      try rfl
    simp only [Act.put, List.setIfInBounds_toArray, List.set_cons_succ, List.set_cons_zero]
    refine wpAnyU_take (i := 16) (v := undef) rfl (by as_aux_lemma => kernel_rfl) (fun _ _ _ h => h) HS (Or.inr ⟨by rfl, rfl⟩) ?_
    simp only [Act.put, List.setIfInBounds_toArray, List.set_cons_succ, List.set_cons_zero]
    refine wpAnyU_take (i := 17) (v := undef) rfl (by as_aux_lemma => kernel_rfl) (fun _ _ _ h => h) HS (Or.inr ⟨by rfl, rfl⟩) ?_
    simp only [Act.put, List.setIfInBounds_toArray, List.set_cons_succ, List.set_cons_zero]
    refine wpAnyU_take (i := 18) (v := undef) rfl (by as_aux_lemma => kernel_rfl) (fun _ _ _ h => h) HS (Or.inr ⟨by rfl, rfl⟩) ?_
    simp only [Act.put, List.setIfInBounds_toArray, List.set_cons_succ, List.set_cons_zero]
    refine wpAnyU_takes (i := 19) rfl (by as_aux_lemma => kernel_rfl) (fun _ _ _ _ h => h) HS ?_
    apply Exists.intro
    apply And.intro
    · refine Or.inl (And.intro (by rfl) ?_)
      rintro w ⟨⟨s0, s1, s2, s3⟩, s4, s5⟩
      go_simp
      try rfl
    simp only [Act.put, List.setIfInBounds_toArray, List.set_cons_succ, List.set_cons_zero]
    refine wpAnyT_close (by as_aux_lemma => kernel_rfl) ?_
    refine wpAny_part (k := 20) (n := 2) (f := 0) rfl rfl (by as_aux_lemma => kernel_rfl) ?_
    simp only [List.drop_succ_cons, List.drop_zero, List.take_succ_cons, List.take_zero]
    go_wp2_with fail
    refine wpAny_done (by as_aux_lemma => kernel_rfl) ?_
    go_wp2_with fail
    refine (awake_c w11).mono ?_
    rintro e w14 ⟨rfl, hb14⟩
    go_wp2_with fail
    go_ret
    exact ⟨rfl, g11.trans hb14⟩
end Go.Proofs.Ytogdhkecpjndlaa.C
