/- The law GrowerBounds, walked. -/
import Derived.Test.YtogdhkecpjndlaaW7
set_option linter.unusedSimpArgs false
set_option linter.unusedVariables false
namespace Go.Proofs.Ytogdhkecpjndlaa.C
open Go.RowKit
set_option maxRecDepth 100000

theorem ne34 (a b c d : Int) (w : World) : (binOp .neq 34 (.agg #[.int .i64 a, .int .i64 b]) (.agg #[.int .i64 c, .int .i64 d])).run Try.prog w = .ok (.bool !((a == c) && (b == d))) w := by
  have h1 : ∀ d (x y : Int) w, (Op.equalIn (d + 1) 3 (.int .i64 x) (.int .i64 y)).run Try.prog w = .ok (x == y) w := fun d x y w => by
    conv => lhs; unfold Op.equalIn
    simp [run_underlying und3, Result.andThen]
  have h9 : ∀ (x y : Int) w, (Op.equalIn 9999 3 (.int .i64 x) (.int .i64 y)).run Try.prog w = .ok (x == y) w := h1 9998
  have hp : ∀ (x0 x1 : Int) w, (part 3 #[.int .i64 x0, .int .i64 x1] 0).run Try.prog w = .ok (.int .i64 x0) w ∧ (part 3 #[.int .i64 x0, .int .i64 x1] 1).run Try.prog w = .ok (.int .i64 x1) w := fun _ _ _ => ⟨rfl, rfl⟩
  obtain ⟨p0, p1⟩ := hp a b w
  obtain ⟨r0, r1⟩ := hp c d w
  simp only [binOp]
  unfold Op.equal
  simp only [Op.maxDepth]
  unfold Op.equalIn
  simp [run_underlying Try.underlying34, Result.andThen]
  cases e0 : (a == c) <;> cases e1 : (b == d) <;> simp [p0, p1, r0, r1, h9, Result.andThen, e0, e1]
theorem ne34_same (a b : Int) (w : World) : (binOp .neq 34 (.agg #[.int .i64 a, .int .i64 b]) (.agg #[.int .i64 a, .int .i64 b])).run Try.prog w = .ok (.bool false) w := by
  rw [ne34]
  simp
theorem eq34_same (a b : Int) (w : World) : (binOp .eql 34 (.agg #[.int .i64 a, .int .i64 b]) (.agg #[.int .i64 a, .int .i64 b])).run Try.prog w = .ok (.bool true) w := by
  rw [eq34]
  simp
theorem boundL_len' {l : Led} (h : askErr l true = 0) : (boundL l).length = l.gs.length := by
  unfold boundL
  rw [if_pos h]
  simp
theorem boundL_at {l : Led} (h : askErr l true = 0) {k : Nat} (hk : k < (boundL l).length) : (boundL l)[k] = refB (fun c => owed l c k) (refTruths l) := by
  have hb := bounds_ref h k
  unfold boundL at hk ⊢
  simp only [if_pos h] at hk ⊢
  simp [hb]

set_option maxHeartbeats 8000000 in
theorem GrowerBounds_c {l : Led} {A C : Option Addr} {cA cC : Nat} {w : World} (hL : LedR w l A C) :
    Calls Try.prog 15 #[ledV l A C cA cC] w fun e w' => e = .returned (.bool true) ∧ G w w' := by
  have HL := Lib.hid hL
  clear hL
  cases ht : thin l
  · go_enter Try.func15, Try.ntmps15
    go_wp2_with fail
    have hB : G w (w.alloc (.cells (cells4 l A C cA cC) 27)) := (G.refl _).alloc _
    generalize w.alloc _ = W at *
    refine (Thin_c l A C cA cC W).mono ?_
    rw [ht]
    rintro e w1 ⟨rfl, hb1⟩
    clear ht
    go_wp2_with fail
    refine (awake_c w1).mono ?_
    rintro e w2 ⟨rfl, hb2⟩
    go_wp2_with fail
    go_ret
    exact ⟨rfl, hB.trans (hb1.trans hb2)⟩
  have hthin : l.gs.length ≤ 30 ∧ l.cs.length ≤ 30 := by simpa [thin] using ht
  obtain ⟨hg, hc⟩ := hthin
  go_enter Try.func15, Try.ntmps15
  go_wp2_with fail
  have k0 := LBox.one (w := w) (l := l) (A := A) (C := C) (cA := cA) (cC := cC)
  have hB : G w (w.alloc (.cells (cells4 l A C cA cC) 27)) := (G.refl _).alloc _
  generalize w.alloc _ = W at *
  refine (Thin_c l A C cA cC W).mono ?_
  rw [ht]
  rintro e w1 ⟨rfl, hb1⟩
  have g1 := hB.trans hb1
  have HK := Lib.hid (k0.grow hb1)
  obtain ⟨s0, s1, s2, s3⟩ := HK.out
  clear ht k0 hB hb1
  go_wp2_with fail
  refine (Ledger_c l A C cA cC w1 (HL.out.grow g1) (by omega) (by omega)).mono ?_
  rintro e w2 ⟨⟨A2, C2, cA2, cC2, rfl, hL2, -, -⟩, hb2⟩
  have HL2 := Lib.hid hL2
  clear hL2
  go_wp2_with fail
  refine (Bounds_c l A2 C2 cA2 cC2 w2 HL2.out hg hc).mono ?_
  rintro e w3 ⟨⟨v3, rfl, ho3⟩, hb3⟩
  obtain ⟨A3, c3, rfl, -, hr3⟩ := Own2.row ho3
  have HR3 := Lib.hid hr3
  replace HK := Lib.hid (HK.out.grow (hb2.trans hb3))
  have g3 := g1.trans (hb2.trans hb3)
  clear ho3 hr3 HL2 g1 hb2 hb3 s0 s1 s2 s3
  obtain ⟨s0, s1, s2, s3⟩ := HK.out
  go_wp2_with fail
  refine (Ledger_c l A C cA cC w3 (HL.out.grow g3) (by omega) (by omega)).mono ?_
  rintro e w4 ⟨⟨A4, C4, cA4, cC4, rfl, hL4, -, -⟩, hb4⟩
  have HL4 := Lib.hid hL4
  clear hL4
  go_wp2_with fail
  refine (Rate_c l A4 C4 cA4 cC4 w4 HL4.out hg hc).mono ?_
  rintro e w5 ⟨rfl, hb5⟩
  have g5 := g3.trans (hb4.trans hb5)
  replace HK := Lib.hid (HK.out.grow (hb4.trans hb5))
  replace HR3 := Lib.hid (HR3.out.grow (hb4.trans hb5))
  clear HL4 g3 hb4 hb5 s0 s1 s2 s3
  go_upto_region 5 with fail
  have n5 : Blk (w5.alloc (.cells #[.int .i64 (rateL l).1, .int .i64 (rateL l).2] 34)) w5.heap.size 34 #[.int .i64 (rateL l).1, .int .i64 (rateL l).2] := Blk.new _ _ _
  have hg5 := (G.refl w5).alloc (.cells #[.int .i64 (rateL l).1, .int .i64 (rateL l).2] 34)
  replace HK := Lib.hid (HK.out.grow hg5)
  replace HR3 := Lib.hid (HR3.out.grow hg5)
  replace g5 := g5.trans hg5
  clear hg5
  generalize hm5 : w5.heap.size = m5 at *
  generalize w5.alloc _ = V at *
  obtain ⟨s0, s1, s2, s3⟩ := HK.out
  go_wp2_with fail
  refine (sure_c (HL.out.grow g5) hg hc).mono ?_
  rintro e w6 ⟨⟨T, cT, rfl, hT⟩, hb6⟩
  replace HK := Lib.hid (HK.out.grow hb6)
  replace HR3 := Lib.hid (HR3.out.grow hb6)
  have HN5 := Lib.hid (n5.grow hb6)
  have g6 := g5.trans hb6
  have HT := Lib.hid hT
  clear g5 hb6 s0 s1 s2 s3 hT n5
  by_cases he : askErr l true = 0
  · obtain ⟨hV, hp, hne, htn, hcok, hat⟩ := truth_facts he
    have HV := Lib.hid hV
    have HC := Lib.hid hcok
    have hlen := boundL_len' he
    have HBR := Lib.hid (fun (k : Nat) (hk : k < (boundL l).length) => boundL_at he hk)
    have HRR := Lib.hid (rate_ref he)
    have hlT := refTruths_len hV
    rw [hat] at HT ⊢
    have hrr := fun (w1 : World) (h : G w6 w1) => RRate_c (w := w1) (cT := cT) (HT.out.grow h) (fun c hc => ⟨(hcok c hc).r0, (hcok c hc).r1⟩) (by omega)
    rw [HRR.out] at HN5
    rw [he, hlen]
    generalize hts : refTruths l = ts at *
    generalize hra : refB (fun c => c.r) ts = ra at *
    clear hV hp hne htn hcok hat he hts hra
    have hnn : ((l.gs.length : Int) != l.gs.length) = false := by simp
    go_wp2_with fail
    refine wp_region_A (by as_aux_lemma => kernel_rfl) ?_
    obtain ⟨z, hz⟩ : ∃ z : World, z = { w6 with drawn := w6.drawn + 1 } := ⟨_, rfl⟩
    rw [← hz]
    have gz : G w6 z := by rw [hz]; exact (G.refl _).drew
    clear hz
    have HS : LBox z w.heap.size l A C cA cC ∧ z.cell? ⟨m5, 0, none⟩ = some (.int .i64 ra.1) ∧ z.cell? ⟨m5, 1, none⟩ = some (.int .i64 ra.2) := ⟨HK.out.grow gz, gz.cell (HN5.out.cell 0 rfl), gz.cell (HN5.out.cell 1 rfl)⟩
    refine wpAny_part (k := 0) (n := 7) (f := 14) rfl rfl (by as_aux_lemma => kernel_rfl) ?_
    simp only [List.drop_succ_cons, List.drop_zero, List.take_succ_cons, List.take_zero]
    go_wp2_with fail
    refine wpAny_fork (fun w' => LBox w' w.heap.size l A C cA cC ∧ w'.cell? ⟨m5, 0, none⟩ = some (.int .i64 ra.1) ∧ w'.cell? ⟨m5, 1, none⟩ = some (.int .i64 ra.2)) 12 ?_
    refine wpAnyU_takes (i := 7) rfl (by as_aux_lemma => kernel_rfl) (fun _ _ _ _ h => h) HS ?_
    apply Exists.intro
    apply And.intro
    · refine Or.inl (And.intro (by rfl) ?_)
      rintro w ⟨⟨s0, s1, s2, s3⟩, s4, s5⟩
      go_simp
      try rfl
    simp only [Act.put, List.setIfInBounds_toArray, List.set_cons_succ, List.set_cons_zero]
    refine wpAnyU_takes (i := 8) rfl (by as_aux_lemma => kernel_rfl) (fun _ _ _ _ h => h) HS ?_
    apply Exists.intro
    apply And.intro
    · refine Or.inl (And.intro (by rfl) ?_)
      rintro w ⟨⟨s0, s1, s2, s3⟩, s4, s5⟩
      go_simp
      try rfl
    simp only [Act.put, List.setIfInBounds_toArray, List.set_cons_succ, List.set_cons_zero]
    refine wpAnyU_takes (i := 9) rfl (by as_aux_lemma => kernel_rfl) (fun _ _ _ _ h => h) HS ?_
    apply Exists.intro
    apply And.intro
    · refine Or.inl (And.intro (by rfl) ?_)
      rintro w ⟨⟨s0, s1, s2, s3⟩, s4, s5⟩
      go_simp
      try rfl
    simp only [Act.put, List.setIfInBounds_toArray, List.set_cons_succ, List.set_cons_zero]
    refine wpAnyU_takes (i := 10) rfl (by as_aux_lemma => kernel_rfl) (fun _ _ _ _ h => h) HS ?_
    apply Exists.intro
    apply And.intro
    · refine Or.inl (And.intro (by rfl) ?_)
      rintro w ⟨⟨s0, s1, s2, s3⟩, s4, s5⟩
      go_simp
      try rfl
    simp only [Act.put, List.setIfInBounds_toArray, List.set_cons_succ, List.set_cons_zero]
    refine wpAnyU_takes (i := 11) rfl (by as_aux_lemma => kernel_rfl) (fun _ _ _ _ h => h) HS ?_
    apply Exists.intro
    apply And.intro
    · refine Or.inl (And.intro (by rfl) ?_)
      rintro w ⟨⟨s0, s1, s2, s3⟩, s4, s5⟩
      go_simp
      try rfl
    simp only [Act.put, List.setIfInBounds_toArray, List.set_cons_succ, List.set_cons_zero]
    refine wpAnyT_close (by as_aux_lemma => kernel_rfl) ?_
    refine wpAny_part (k := 12) (n := 3) (f := 6) rfl rfl (by as_aux_lemma => kernel_rfl) ?_
    simp only [List.drop_succ_cons, List.drop_zero, List.take_succ_cons, List.take_zero]
    go_wp2_with fail
    refine wpAny_fork (fun w' => LBox w' w.heap.size l A C cA cC ∧ w'.cell? ⟨m5, 0, none⟩ = some (.int .i64 ra.1) ∧ w'.cell? ⟨m5, 1, none⟩ = some (.int .i64 ra.2)) 19 ?_
    refine wpAnyU_takes (i := 15) rfl (by as_aux_lemma => kernel_rfl) (fun _ _ _ _ h => h) HS ?_
    apply Exists.intro
    apply And.intro
    · refine Or.inl (And.intro (by rfl) ?_)
      rintro w ⟨⟨s0, s1, s2, s3⟩, s4, s5⟩
      go_simp
      try rfl
    simp only [Act.put, List.setIfInBounds_toArray, List.set_cons_succ, List.set_cons_zero]
    refine wpAnyU_takes (i := 16) rfl (by as_aux_lemma => kernel_rfl) (fun _ _ _ _ h => h) HS ?_
    apply Exists.intro
    apply And.intro
    · refine Or.inl (And.intro (by rfl) ?_)
      rintro w ⟨⟨s0, s1, s2, s3⟩, s4, s5⟩
      go_simp
      try rfl
    simp only [Act.put, List.setIfInBounds_toArray, List.set_cons_succ, List.set_cons_zero]
    refine wpAnyT_one (i := 17) (by as_aux_lemma => kernel_rfl) rfl ?_
    go_wp2_with fail
    refine (hrr z gz).mono ?_
    rintro e w7 ⟨rfl, hb7⟩
    go_wp2_with fail
    replace HS : LBox w7 w.heap.size l A C cA cC ∧ w7.cell? ⟨m5, 0, none⟩ = some (.int .i64 ra.1) ∧ w7.cell? ⟨m5, 1, none⟩ = some (.int .i64 ra.2) := ⟨HS.1.grow hb7, hb7.cell HS.2.1, hb7.cell HS.2.2⟩
    refine ⟨HS, ?_⟩
    refine wpAnyT_one (i := 18) (by as_aux_lemma => kernel_rfl) rfl ?_
    go_wp2_with fail
    refine (to_c _ _ _).mono ?_
    rintro e w8 ⟨rfl, hb8⟩
    go_wp2_with fail
    refine ⟨⟨HS.1.grow hb8, hb8.cell HS.2.1, hb8.cell HS.2.2⟩, ?_⟩
    have g68 := gz.trans (hb7.trans hb8)
    have g8 := g6.trans g68
    replace HK := Lib.hid (HK.out.grow g68)
    replace HR3 := Lib.hid (HR3.out.grow g68)
    replace HT := Lib.hid (HT.out.grow g68)
    have hnes := ne34_same ra.1 ra.2
    refine wpAnyT_close (by as_aux_lemma => kernel_rfl) ?_
    refine wpAny_part (k := 19) (n := 2) (f := 0) rfl rfl (by as_aux_lemma => kernel_rfl) ?_
    simp only [List.drop_succ_cons, List.drop_zero, List.take_succ_cons, List.take_zero]
    go_wp2_with fail
    refine wpAny_done (by as_aux_lemma => kernel_rfl) ?_
    clear hnes hrr HS gz hb7 hb8 hnn g68
    go_wp2_with fail
    go_loopw [9] (fun v9 wr => ∃ (k : Nat), k ≤ l.gs.length ∧ v9 = .int .i64 k ∧ G w8 wr) (fun v9 _ => l.gs.length - (intOf v9).toNat)
    case atStart => exact ⟨0, by omega, rfl, G.refl _⟩
    case round =>
      obtain ⟨k, hk, rfl, hbr⟩ := hrel
      have gw := g8.trans hbr
      obtain ⟨s0, s1, s2, s3⟩ := HK.out.grow hbr
      by_cases hlt : k < l.gs.length
      · have hkd : k < (boundL l).length := by rw [hlen]; exact hlt
        obtain ⟨b, off, rfl, d0, d1⟩ := HR3.out.at hkd
        have e0 := hbr.cell d0
        have e1 := hbr.cell d1
        have hbb := HBR.out k hkd
        rw [hbb] at e0 e1
        have hcall := fun (w1 : World) (h : G w8 w1) => RBounds_c (w := w1) (cA := cA) (cC := cC) (cT := cT) HV.out HC.out (HL.out.grow (g8.trans h)) (HT.out.grow h) hlt (by omega)
        clear d0 d1 hbb
        generalize refB (fun c => owed l c k) ts = rr at *
        have hki : (k : Int) < l.gs.length := by omega
        go_wp2_with fail
        refine wp_region_A (by as_aux_lemma => kernel_rfl) ?_
        obtain ⟨z, hz⟩ : ∃ z : World, z = { wr with drawn := wr.drawn + 1 } := ⟨_, rfl⟩
        rw [← hz]
        have gz : G wr z := by rw [hz]; exact (G.refl _).drew
        clear hz
        have HS : LBox z w.heap.size l A C cA cC ∧ z.cell? ⟨b, off + k * 2, none⟩ = some (.int .i64 rr.1) ∧ z.cell? ⟨b, off + k * 2 + 1, none⟩ = some (.int .i64 rr.2) := ⟨HK.out.grow (hbr.trans gz), gz.cell e0, gz.cell e1⟩
        clear s0 s1 s2 s3 e0 e1
        refine wpAny_fork (fun w' => LBox w' w.heap.size l A C cA cC ∧ w'.cell? ⟨b, off + k * 2, none⟩ = some (.int .i64 rr.1) ∧ w'.cell? ⟨b, off + k * 2 + 1, none⟩ = some (.int .i64 rr.2)) 9 ?_
        refine wpAnyU_takes (i := 0) rfl (by as_aux_lemma => kernel_rfl) (fun _ _ _ _ h => h) HS ?_
        apply Exists.intro
        apply And.intro
        · refine Or.inl (And.intro (by rfl) ?_)
          rintro w ⟨⟨s0, s1, s2, s3⟩, s4, s5⟩
          go_simp
          try rfl
        simp only [Act.put, List.setIfInBounds_toArray, List.set_cons_succ, List.set_cons_zero]
        refine wpAnyU_takes (i := 1) rfl (by as_aux_lemma => kernel_rfl) (fun _ _ _ _ h => h) HS ?_
        apply Exists.intro
        apply And.intro
        · refine Or.inl (And.intro (by rfl) ?_)
          rintro w ⟨⟨s0, s1, s2, s3⟩, s4, s5⟩
          go_simp
          try rfl
        simp only [Act.put, List.setIfInBounds_toArray, List.set_cons_succ, List.set_cons_zero]
        refine wpAnyU_takes (i := 2) rfl (by as_aux_lemma => kernel_rfl) (fun _ _ _ _ h => h) HS ?_
        apply Exists.intro
        apply And.intro
        · refine Or.inl (And.intro (by rfl) ?_)
          rintro w ⟨⟨s0, s1, s2, s3⟩, s4, s5⟩
          go_simp
          try rfl
        simp only [Act.put, List.setIfInBounds_toArray, List.set_cons_succ, List.set_cons_zero]
        refine wpAnyU_takes (i := 3) rfl (by as_aux_lemma => kernel_rfl) (fun _ _ _ _ h => h) HS ?_
        apply Exists.intro
        apply And.intro
        · refine Or.inl (And.intro (by rfl) ?_)
          rintro w ⟨⟨s0, s1, s2, s3⟩, s4, s5⟩
          go_simp
          try rfl
        simp only [Act.put, List.setIfInBounds_toArray, List.set_cons_succ, List.set_cons_zero]
        refine wpAnyU_takes (i := 4) rfl (by as_aux_lemma => kernel_rfl) (fun _ _ _ _ h => h) HS ?_
        apply Exists.intro
        apply And.intro
        · refine Or.inl (And.intro (by rfl) ?_)
          rintro w ⟨⟨s0, s1, s2, s3⟩, s4, s5⟩
          go_simp
          try rfl
        simp only [Act.put, List.setIfInBounds_toArray, List.set_cons_succ, List.set_cons_zero]
        refine wpAnyU_takes (i := 5) rfl (by as_aux_lemma => kernel_rfl) (fun _ _ _ _ h => h) HS ?_
        apply Exists.intro
        apply And.intro
        · refine Or.inl (And.intro (by rfl) ?_)
          rintro w ⟨⟨s0, s1, s2, s3⟩, s4, s5⟩
          go_simp
          try rfl
        simp only [Act.put, List.setIfInBounds_toArray, List.set_cons_succ, List.set_cons_zero]
        refine wpAnyU_takes (i := 6) rfl (by as_aux_lemma => kernel_rfl) (fun _ _ _ _ h => h) HS ?_
        apply Exists.intro
        apply And.intro
        · refine Or.inl (And.intro (by rfl) ?_)
          rintro w ⟨⟨s0, s1, s2, s3⟩, s4, s5⟩
          go_simp
          try rfl
        simp only [Act.put, List.setIfInBounds_toArray, List.set_cons_succ, List.set_cons_zero]
        refine wpAnyT_one (i := 7) (by as_aux_lemma => kernel_rfl) rfl ?_
        go_wp2_with fail
        refine (hcall z (hbr.trans gz)).mono ?_
        rintro e w9 ⟨rfl, hb9⟩
        go_wp2_with fail
        replace HS : LBox w9 w.heap.size l A C cA cC ∧ w9.cell? ⟨b, off + k * 2, none⟩ = some (.int .i64 rr.1) ∧ w9.cell? ⟨b, off + k * 2 + 1, none⟩ = some (.int .i64 rr.2) := ⟨HS.1.grow hb9, hb9.cell HS.2.1, hb9.cell HS.2.2⟩
        refine ⟨HS, ?_⟩
        refine wpAnyT_one (i := 8) (by as_aux_lemma => kernel_rfl) rfl ?_
        go_wp2_with fail
        refine (to_c _ _ _).mono ?_
        rintro e w10 ⟨rfl, hb10⟩
        go_wp2_with fail
        refine ⟨⟨HS.1.grow hb10, hb10.cell HS.2.1, hb10.cell HS.2.2⟩, ?_⟩
        have hnes := ne34_same rr.1 rr.2
        refine wpAnyT_close (by as_aux_lemma => kernel_rfl) ?_
        refine wpAny_part (k := 9) (n := 1) (f := 0) rfl rfl (by as_aux_lemma => kernel_rfl) ?_
        simp only [List.drop_succ_cons, List.drop_zero, List.take_succ_cons, List.take_zero]
        go_wp2_with fail
        refine wpAny_done (by as_aux_lemma => kernel_rfl) ?_
        go_wp2_with fail
        go_roundw
        case rel => exact ⟨k + 1, by omega, by go_num, hbr.trans (gz.trans (hb9.trans hb10))⟩
        case measure => simp [intOf]; omega
      · go_wp2_with fail
        refine (awake_c wr).mono ?_
        rintro e w14 ⟨rfl, hb14⟩
        go_wp2_with fail
        go_ret
        exact ⟨rfl, gw.trans hb14⟩
  · have HRE := Lib.hid (show rateL l = (0, 0) by unfold rateL; rw [if_neg he])
    have HBE := Lib.hid (show boundL l = [] by unfold boundL; rw [if_neg he])
    rw [HRE.out] at HN5
    rw [HBE.out]
    have hne : (askErr l true != 0) = true := by simp [he]
    have hee : (askErr l true == askErr l true) = true := by simp
    have hqs := eq34_same 0 0
    generalize askErr l true = E at *
    clear he
    have u0 := HN5.out.cell 0 (v := .int .i64 0) rfl
    have u1 := HN5.out.cell 1 (v := .int .i64 0) rfl
    go_wp2_with fail
    refine (awake_c w6).mono ?_
    rintro e w14 ⟨rfl, hb14⟩
    go_wp2_with fail
    go_ret
    exact ⟨rfl, g6.trans hb14⟩
end Go.Proofs.Ytogdhkecpjndlaa.C
