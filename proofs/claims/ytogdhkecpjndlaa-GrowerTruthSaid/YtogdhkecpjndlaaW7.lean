/- The law GrowerLeast, walked. -/
import Derived.Test.YtogdhkecpjndlaaW6
set_option linter.unusedSimpArgs false
set_option linter.unusedVariables false
namespace Go.Proofs.Ytogdhkecpjndlaa.C
open Go.RowKit
set_option maxRecDepth 100000

theorem fullL_err {l : Led} (h : ¬ askErr l true = 0) : fullL l = 0 := by unfold fullL; rw [if_neg h]
theorem askErr_true {l : Led} {fine : Bool} (h : askErr l fine = 0) : askErr l true = 0 ∧ fine = true := by
  have := askErr_zero' h
  rw [this.2.1] at h
  exact ⟨h, this.2.1⟩

theorem leastG_len {l : Led} {sum : Int} : ∀ (cs : List Cn) (out : List Int), (leastG l sum out cs).length = out.length
  | [], out => rfl
  | c :: cs, out => by
    show (leastG l sum (zipMin out (shareL (dues l c) sum)) cs).length = _
    rw [leastG_len cs, zipMin_len]
theorem least_len {l : Led} {sum : Int} (h : askErr l (inB sum 0 9999) = 0) : (leastL l sum).length = l.gs.length := by
  have h1 := (askErr_zero' h).2.2
  unfold leastL
  rw [if_pos h]
  cases hp : truthsL l with
  | nil => exact absurd hp h1
  | cons p ps =>
    show (leastG l sum (shareL (dues l p) sum) ps).length = _
    rw [leastG_len, shareL_len, dues_len]

set_option maxHeartbeats 8000000 in
theorem GrowerLeast_c {l : Led} {A C : Option Addr} {cA cC : Nat} {sum : Int} {w : World} (hL : LedR w l A C) :
    Calls Try.prog 5 #[ledV l A C cA cC, .int .i64 sum] w fun e w' => e = .returned (.bool true) ∧ G w w' := by
  have HL := Lib.hid hL
  clear hL
  cases ht : thin l
  · go_enter Try.func5, Try.ntmps5
    go_wp2_with fail
    have hB : G w (w.alloc (.cells (cells4 l A C cA cC) 27)) := (G.refl _).alloc _
    generalize w.alloc _ = W at *
    refine (Thin_c l A C cA cC W).mono ?_
    rw [ht]
    rintro e w1 ⟨rfl, hb1⟩
    clear ht
    go_wp2_with fail
    refine (awake_c w1).mono ?_
    rintro e w2 ⟨rfl, hb2⟩
    go_wp2_with fail
    go_ret
    exact ⟨rfl, hB.trans (hb1.trans hb2)⟩
  have hthin : l.gs.length ≤ 30 ∧ l.cs.length ≤ 30 := by simpa [thin] using ht
  obtain ⟨hg, hc⟩ := hthin
  go_enter Try.func5, Try.ntmps5
  go_wp2_with fail
  have k0 := LBox.one (w := w) (l := l) (A := A) (C := C) (cA := cA) (cC := cC)
  have hB : G w (w.alloc (.cells (cells4 l A C cA cC) 27)) := (G.refl _).alloc _
  generalize w.alloc _ = W at *
  refine (Thin_c l A C cA cC W).mono ?_
  rw [ht]
  rintro e w1 ⟨rfl, hb1⟩
  have g1 := hB.trans hb1
  have HK := Lib.hid (k0.grow hb1)
  obtain ⟨s0, s1, s2, s3⟩ := HK.out
  clear ht k0 hB hb1
  go_wp2_with fail
  refine (Ledger_c l A C cA cC w1 (HL.out.grow g1) (by omega) (by omega)).mono ?_
  rintro e w2 ⟨⟨A2, C2, cA2, cC2, rfl, hL2, -, -⟩, hb2⟩
  have HL2 := Lib.hid hL2
  clear hL2
  go_wp2_with fail
  refine (Least_c l A2 C2 cA2 cC2 sum w2 HL2.out hg hc).mono ?_
  rintro e w3 ⟨⟨v3, rfl, ho3⟩, hb3⟩
  obtain ⟨A3, c3, rfl, -, hr3⟩ := ho3.row
  have HR3 := Lib.hid hr3
  replace HK := Lib.hid (HK.out.grow (hb2.trans hb3))
  have g3 := g1.trans (hb2.trans hb3)
  clear ho3 hr3 HL2 g1 hb2 hb3 s0 s1 s2 s3
  obtain ⟨s0, s1, s2, s3⟩ := HK.out
  go_wp2_with fail
  refine (Ledger_c l A C cA cC w3 (HL.out.grow g3) (by omega) (by omega)).mono ?_
  rintro e w4 ⟨⟨A4, C4, cA4, cC4, rfl, hL4, -, -⟩, hb4⟩
  have HL4 := Lib.hid hL4
  clear hL4
  go_wp2_with fail
  refine (Full_c l A4 C4 cA4 cC4 w4 HL4.out hg hc).mono ?_
  rintro e w5 ⟨rfl, hb5⟩
  replace HK := Lib.hid (HK.out.grow (hb4.trans hb5))
  replace HR3 := Lib.hid (HR3.out.grow (hb4.trans hb5))
  have g5 := g3.trans (hb4.trans hb5)
  clear HL4 g3 hb4 hb5 s0 s1 s2 s3
  obtain ⟨s0, s1, s2, s3⟩ := HK.out
  go_wp2_with fail
  refine (sure_c (HL.out.grow g5) hg hc).mono ?_
  rintro e w6 ⟨⟨T, cT, rfl, hT⟩, hb6⟩
  replace HK := Lib.hid (HK.out.grow hb6)
  replace HR3 := Lib.hid (HR3.out.grow hb6)
  have g6 := g5.trans hb6
  have HT := Lib.hid hT
  clear g5 hb6 s0 s1 s2 s3 hT
  by_cases he : askErr l true = 0
  · obtain ⟨hV, hp, hne, htn, hcok, hat⟩ := truth_facts he
    have HFR := Lib.hid (full_ref he)
    have hlT := refTruths_len hV
    rw [hat] at HT ⊢
    have hcall := RWhole_c (w := w6) (cA := cA) (cC := cC) (cT := cT) hV hcok (HL.out.grow g6) HT.out (by omega)
    rw [HFR.out, he]
    generalize refWhole l (refTruths l) = q at *
    have hqq : (q != q) = false := by simp
    obtain ⟨s0, s1, s2, s3⟩ := HK.out
    clear hV hp hne htn hcok hat he
    go_wp2_with fail
    refine hcall.mono ?_
    rintro e w7 ⟨rfl, hb7⟩
    have g7 := g6.trans hb7
    replace HK := Lib.hid (HK.out.grow hb7)
    replace HR3 := Lib.hid (HR3.out.grow hb7)
    clear s0 s1 s2 s3 hcall HFR HT
    -- the second half, from world w7 grown by gw7
    obtain ⟨s0, s1, s2, s3⟩ := HK.out
    go_wp2_with fail
    refine (lawAsked_c (sum := sum) (HL.out.grow g7) hg hc).mono ?_
    rintro e w9 ⟨⟨T9, cT9, rfl, hT9⟩, hb9⟩
    replace HK := Lib.hid (HK.out.grow hb9)
    replace HR3 := Lib.hid (HR3.out.grow hb9)
    have g9 := (g7).trans hb9
    have HT9 := Lib.hid hT9
    clear hT9 s0 s1 s2 s3
    by_cases hs : askErr l (inB sum 0 9999) = 0
    · obtain ⟨hs1, hs2⟩ := askErr_true hs
      obtain ⟨hV, hp, hne, htn, hcok, hat⟩ := truth_facts hs1
      have HV := Lib.hid hV
      have HC := Lib.hid hcok
      have hsum := inB_iff.1 hs2
      have HLL := Lib.hid (show leastL l sum = leastM l sum (truthsL l) by unfold leastL; rw [if_pos hs])
      have HLR := Lib.hid (fun (k : Nat) (hk : k < l.gs.length) => (least_ref (sum := sum) hs1 hsum.1 hk))
      have hlT := refTruths_len hV
      have hlen : (leastL l sum).length = l.gs.length := least_len hs
      have hat2 : askT l (inB sum 0 9999) = refTruths l := by unfold askT; rw [if_pos hs]
      rw [hat2] at HT9 ⊢
      rw [hs, hlen]
      generalize refTruths l = ts at *
      clear hV hp hne htn hcok hat hs hs1 hs2 hat2
      obtain ⟨s0, s1, s2, s3⟩ := HK.out
      have hnn : ((l.gs.length : Int) != l.gs.length) = false := by simp
      go_wp2_with fail
      clear hnn s0 s1 s2 s3
      go_loopw [11] (fun v11 wr => ∃ (k : Nat), k ≤ l.gs.length ∧ v11 = .int .i64 k ∧ G w9 wr) (fun v11 _ => l.gs.length - (intOf v11).toNat)
      case atStart => exact ⟨0, by omega, rfl, G.refl _⟩
      case round =>
        obtain ⟨k, hk, rfl, hbr⟩ := hrel
        have gw := g9.trans hbr
        obtain ⟨s0, s1, s2, s3⟩ := HK.out.grow hbr
        by_cases hlt : k < l.gs.length
        · have hkd : k < (leastL l sum).length := by rw [hlen]; exact hlt
          obtain ⟨b, off, rfl, d0⟩ := HR3.out.at hkd
          have e0 := hbr.cell d0
          have hcr := (HLR.out k hlt).1
          rw [← HLL.out, getD_of hkd] at hcr
          rw [hcr] at e0
          have hcall := fun (w1 : World) (h : G w9 w1) => RLeast_c (w := w1) (cA := cA) (cC := cC) (cT := cT9) HV.out HC.out (HL.out.grow (g9.trans h)) (HT9.out.grow h) hlt (by omega) hsum.1 hsum.2
          clear d0 hcr
          generalize refLeast l ts sum k = d at *
          have hdd : (d != d) = false := by simp
          have hki : (k : Int) < l.gs.length := by omega
          go_wp2_with fail
          refine wp_region_A (by as_aux_lemma => kernel_rfl) ?_
          obtain ⟨z, hz⟩ : ∃ z : World, z = { wr with drawn := wr.drawn + 1 } := ⟨_, rfl⟩
          rw [← hz]
          have gz : G wr z := by rw [hz]; exact (G.refl _).drew
          clear hz
          have HS : LBox z w.heap.size l A C cA cC ∧ z.cell? ⟨b, off + k, none⟩ = some (.int .i64 d) := ⟨HK.out.grow (hbr.trans gz), gz.cell e0⟩
          clear s0 s1 s2 s3 e0
          refine wpAny_fork (fun w' => LBox w' w.heap.size l A C cA cC ∧ w'.cell? ⟨b, off + k, none⟩ = some (.int .i64 d)) 9 ?_
          refine wpAnyU_takes (i := 0) rfl (by as_aux_lemma => kernel_rfl) (fun _ _ _ _ h => h) HS ?_
          apply Exists.intro
          apply And.intro
          · refine Or.inl (And.intro (by rfl) ?_)
            rintro w ⟨⟨s0, s1, s2, s3⟩, s4⟩
            go_simp
            try rfl
          simp only [Act.put, List.setIfInBounds_toArray, List.set_cons_succ, List.set_cons_zero]
          refine wpAnyU_takes (i := 1) rfl (by as_aux_lemma => kernel_rfl) (fun _ _ _ _ h => h) HS ?_
          apply Exists.intro
          apply And.intro
          · refine Or.inl (And.intro (by rfl) ?_)
            rintro w ⟨⟨s0, s1, s2, s3⟩, s4⟩
            go_simp
            try rfl
          simp only [Act.put, List.setIfInBounds_toArray, List.set_cons_succ, List.set_cons_zero]
          refine wpAnyU_takes (i := 2) rfl (by as_aux_lemma => kernel_rfl) (fun _ _ _ _ h => h) HS ?_
          apply Exists.intro
          apply And.intro
          · refine Or.inl (And.intro (by rfl) ?_)
            rintro w ⟨⟨s0, s1, s2, s3⟩, s4⟩
            go_simp
            try rfl
          simp only [Act.put, List.setIfInBounds_toArray, List.set_cons_succ, List.set_cons_zero]
          refine wpAnyU_takes (i := 3) rfl (by as_aux_lemma => kernel_rfl) (fun _ _ _ _ h => h) HS ?_
          apply Exists.intro
          apply And.intro
          · refine Or.inl (And.intro (by rfl) ?_)
            rintro w ⟨⟨s0, s1, s2, s3⟩, s4⟩
            go_simp
            try rfl
          simp only [Act.put, List.setIfInBounds_toArray, List.set_cons_succ, List.set_cons_zero]
          refine wpAnyU_takes (i := 4) rfl (by as_aux_lemma => kernel_rfl) (fun _ _ _ _ h => h) HS ?_
          apply Exists.intro
          apply And.intro
          · refine Or.inl (And.intro (by rfl) ?_)
            rintro w ⟨⟨s0, s1, s2, s3⟩, s4⟩
            go_simp
            try rfl
          simp only [Act.put, List.setIfInBounds_toArray, List.set_cons_succ, List.set_cons_zero]
          refine wpAnyU_takes (i := 5) rfl (by as_aux_lemma => kernel_rfl) (fun _ _ _ _ h => h) HS ?_
          apply Exists.intro
          apply And.intro
          · refine Or.inl (And.intro (by rfl) ?_)
            rintro w ⟨⟨s0, s1, s2, s3⟩, s4⟩
            go_simp
            try rfl
          simp only [Act.put, List.setIfInBounds_toArray, List.set_cons_succ, List.set_cons_zero]
          refine wpAnyU_takes (i := 6) rfl (by as_aux_lemma => kernel_rfl) (fun _ _ _ _ h => h) HS ?_
          apply Exists.intro
          apply And.intro
          · refine Or.inl (And.intro (by rfl) ?_)
            rintro w ⟨⟨s0, s1, s2, s3⟩, s4⟩
            go_simp
            try rfl
          simp only [Act.put, List.setIfInBounds_toArray, List.set_cons_succ, List.set_cons_zero]
          refine wpAnyU_takes (i := 7) rfl (by as_aux_lemma => kernel_rfl) (fun _ _ _ _ h => h) HS ?_
          apply Exists.intro
          apply And.intro
          · refine Or.inl (And.intro (by rfl) ?_)
            rintro w ⟨⟨s0, s1, s2, s3⟩, s4⟩
            go_simp
            try rfl
          simp only [Act.put, List.setIfInBounds_toArray, List.set_cons_succ, List.set_cons_zero]
          refine wpAnyT_one (i := 8) (by as_aux_lemma => kernel_rfl) rfl ?_
          go_wp2_with fail
          refine (hcall z (hbr.trans gz)).mono ?_
          rintro e w7 ⟨rfl, hb7⟩
          go_wp2_with fail
          refine ⟨⟨HS.1.grow hb7, hb7.cell HS.2⟩, ?_⟩
          refine wpAnyT_close (by as_aux_lemma => kernel_rfl) ?_
          refine wpAny_part (k := 9) (n := 1) (f := 0) rfl rfl (by as_aux_lemma => kernel_rfl) ?_
          simp only [List.drop_succ_cons, List.drop_zero, List.take_succ_cons, List.take_zero]
          go_wp2_with fail
          refine wpAny_done (by as_aux_lemma => kernel_rfl) ?_
          go_wp2_with fail
          go_roundw
          case rel => exact ⟨k + 1, by omega, by go_num, hbr.trans (gz.trans hb7)⟩
          case measure => simp [intOf]; omega
        · go_wp2_with fail
          refine (awake_c wr).mono ?_
          rintro e w14 ⟨rfl, hb14⟩
          go_wp2_with fail
          go_ret
          exact ⟨rfl, gw.trans hb14⟩
    · have HLN := Lib.hid (show leastL l sum = [] by unfold leastL; rw [if_neg hs])
      rw [HLN.out]
      have hne : (askErr l (inB sum 0 9999) != 0) = true := by simp [hs]
      have hee : (askErr l (inB sum 0 9999) == askErr l (inB sum 0 9999)) = true := by simp
      generalize askErr l (inB sum 0 9999) = E at *
      clear hs
      go_wp2_with fail
      refine (awake_c w9).mono ?_
      rintro e w14 ⟨rfl, hb14⟩
      go_wp2_with fail
      go_ret
      exact ⟨rfl, g9.trans hb14⟩
  · have HFE := Lib.hid (fullL_err he)
    rw [HFE.out]
    have hne : (askErr l true != 0) = true := by simp [he]
    have hee : (askErr l true != askErr l true) = false := by simp
    generalize askErr l true = E at *
    clear he HT
    -- the second half, from world w6 grown by gw6
    obtain ⟨s0, s1, s2, s3⟩ := HK.out
    go_wp2_with fail
    refine (lawAsked_c (sum := sum) (HL.out.grow g6) hg hc).mono ?_
    rintro e w9 ⟨⟨T9, cT9, rfl, hT9⟩, hb9⟩
    replace HK := Lib.hid (HK.out.grow hb9)
    replace HR3 := Lib.hid (HR3.out.grow hb9)
    have g9 := (g6).trans hb9
    have HT9 := Lib.hid hT9
    clear hT9 s0 s1 s2 s3
    by_cases hs : askErr l (inB sum 0 9999) = 0
    · obtain ⟨hs1, hs2⟩ := askErr_true hs
      obtain ⟨hV, hp, hne, htn, hcok, hat⟩ := truth_facts hs1
      have HV := Lib.hid hV
      have HC := Lib.hid hcok
      have hsum := inB_iff.1 hs2
      have HLL := Lib.hid (show leastL l sum = leastM l sum (truthsL l) by unfold leastL; rw [if_pos hs])
      have HLR := Lib.hid (fun (k : Nat) (hk : k < l.gs.length) => (least_ref (sum := sum) hs1 hsum.1 hk))
      have hlT := refTruths_len hV
      have hlen : (leastL l sum).length = l.gs.length := least_len hs
      have hat2 : askT l (inB sum 0 9999) = refTruths l := by unfold askT; rw [if_pos hs]
      rw [hat2] at HT9 ⊢
      rw [hs, hlen]
      generalize refTruths l = ts at *
      clear hV hp hne htn hcok hat hs hs1 hs2 hat2
      obtain ⟨s0, s1, s2, s3⟩ := HK.out
      have hnn : ((l.gs.length : Int) != l.gs.length) = false := by simp
      go_wp2_with fail
      clear hnn s0 s1 s2 s3
      go_loopw [11] (fun v11 wr => ∃ (k : Nat), k ≤ l.gs.length ∧ v11 = .int .i64 k ∧ G w9 wr) (fun v11 _ => l.gs.length - (intOf v11).toNat)
      case atStart => exact ⟨0, by omega, rfl, G.refl _⟩
      case round =>
        obtain ⟨k, hk, rfl, hbr⟩ := hrel
        have gw := g9.trans hbr
        obtain ⟨s0, s1, s2, s3⟩ := HK.out.grow hbr
        by_cases hlt : k < l.gs.length
        · have hkd : k < (leastL l sum).length := by rw [hlen]; exact hlt
          obtain ⟨b, off, rfl, d0⟩ := HR3.out.at hkd
          have e0 := hbr.cell d0
          have hcr := (HLR.out k hlt).1
          rw [← HLL.out, getD_of hkd] at hcr
          rw [hcr] at e0
          have hcall := fun (w1 : World) (h : G w9 w1) => RLeast_c (w := w1) (cA := cA) (cC := cC) (cT := cT9) HV.out HC.out (HL.out.grow (g9.trans h)) (HT9.out.grow h) hlt (by omega) hsum.1 hsum.2
          clear d0 hcr
          generalize refLeast l ts sum k = d at *
          have hdd : (d != d) = false := by simp
          have hki : (k : Int) < l.gs.length := by omega
          go_wp2_with fail
          refine wp_region_A (by as_aux_lemma => kernel_rfl) ?_
          obtain ⟨z, hz⟩ : ∃ z : World, z = { wr with drawn := wr.drawn + 1 } := ⟨_, rfl⟩
          rw [← hz]
          have gz : G wr z := by rw [hz]; exact (G.refl _).drew
          clear hz
          have HS : LBox z w.heap.size l A C cA cC ∧ z.cell? ⟨b, off + k, none⟩ = some (.int .i64 d) := ⟨HK.out.grow (hbr.trans gz), gz.cell e0⟩
          clear s0 s1 s2 s3 e0
          refine wpAny_fork (fun w' => LBox w' w.heap.size l A C cA cC ∧ w'.cell? ⟨b, off + k, none⟩ = some (.int .i64 d)) 9 ?_
          refine wpAnyU_takes (i := 0) rfl (by as_aux_lemma => kernel_rfl) (fun _ _ _ _ h => h) HS ?_
          apply Exists.intro
          apply And.intro
          · refine Or.inl (And.intro (by rfl) ?_)
            rintro w ⟨⟨s0, s1, s2, s3⟩, s4⟩
            go_simp
            try rfl
          simp only [Act.put, List.setIfInBounds_toArray, List.set_cons_succ, List.set_cons_zero]
          refine wpAnyU_takes (i := 1) rfl (by as_aux_lemma => kernel_rfl) (fun _ _ _ _ h => h) HS ?_
          apply Exists.intro
          apply And.intro
          · refine Or.inl (And.intro (by rfl) ?_)
            rintro w ⟨⟨s0, s1, s2, s3⟩, s4⟩
            go_simp
            try rfl
          simp only [Act.put, List.setIfInBounds_toArray, List.set_cons_succ, List.set_cons_zero]
          refine wpAnyU_takes (i := 2) rfl (by as_aux_lemma => kernel_rfl) (fun _ _ _ _ h => h) HS ?_
          apply Exists.intro
          apply And.intro
          · refine Or.inl (And.intro (by rfl) ?_)
            rintro w ⟨⟨s0, s1, s2, s3⟩, s4⟩
            go_simp
            try rfl
          simp only [Act.put, List.setIfInBounds_toArray, List.set_cons_succ, List.set_cons_zero]
          refine wpAnyU_takes (i := 3) rfl (by as_aux_lemma => kernel_rfl) (fun _ _ _ _ h => h) HS ?_
          apply Exists.intro
          apply And.intro
          · refine Or.inl (And.intro (by rfl) ?_)
            rintro w ⟨⟨s0, s1, s2, s3⟩, s4⟩
            go_simp
            try rfl
          simp only [Act.put, List.setIfInBounds_toArray, List.set_cons_succ, List.set_cons_zero]
          refine wpAnyU_takes (i := 4) rfl (by as_aux_lemma => kernel_rfl) (fun _ _ _ _ h => h) HS ?_
          apply Exists.intro
          apply And.intro
          · refine Or.inl (And.intro (by rfl) ?_)
            rintro w ⟨⟨s0, s1, s2, s3⟩, s4⟩
            go_simp
            try rfl
          simp only [Act.put, List.setIfInBounds_toArray, List.set_cons_succ, List.set_cons_zero]
          refine wpAnyU_takes (i := 5) rfl (by as_aux_lemma => kernel_rfl) (fun _ _ _ _ h => h) HS ?_
          apply Exists.intro
          apply And.intro
          · refine Or.inl (And.intro (by rfl) ?_)
            rintro w ⟨⟨s0, s1, s2, s3⟩, s4⟩
            go_simp
            try rfl
          simp only [Act.put, List.setIfInBounds_toArray, List.set_cons_succ, List.set_cons_zero]
          refine wpAnyU_takes (i := 6) rfl (by as_aux_lemma => kernel_rfl) (fun _ _ _ _ h => h) HS ?_
          apply Exists.intro
          apply And.intro
          · refine Or.inl (And.intro (by rfl) ?_)
            rintro w ⟨⟨s0, s1, s2, s3⟩, s4⟩
            go_simp
            try rfl
          simp only [Act.put, List.setIfInBounds_toArray, List.set_cons_succ, List.set_cons_zero]
          refine wpAnyU_takes (i := 7) rfl (by as_aux_lemma => kernel_rfl) (fun _ _ _ _ h => h) HS ?_
          apply Exists.intro
          apply And.intro
          · refine Or.inl (And.intro (by rfl) ?_)
            rintro w ⟨⟨s0, s1, s2, s3⟩, s4⟩
            go_simp
            try rfl
          simp only [Act.put, List.setIfInBounds_toArray, List.set_cons_succ, List.set_cons_zero]
          refine wpAnyT_one (i := 8) (by as_aux_lemma => kernel_rfl) rfl ?_
          go_wp2_with fail
          refine (hcall z (hbr.trans gz)).mono ?_
          rintro e w7 ⟨rfl, hb7⟩
          go_wp2_with fail
          refine ⟨⟨HS.1.grow hb7, hb7.cell HS.2⟩, ?_⟩
          refine wpAnyT_close (by as_aux_lemma => kernel_rfl) ?_
          refine wpAny_part (k := 9) (n := 1) (f := 0) rfl rfl (by as_aux_lemma => kernel_rfl) ?_
          simp only [List.drop_succ_cons, List.drop_zero, List.take_succ_cons, List.take_zero]
          go_wp2_with fail
          refine wpAny_done (by as_aux_lemma => kernel_rfl) ?_
          go_wp2_with fail
          go_roundw
          case rel => exact ⟨k + 1, by omega, by go_num, hbr.trans (gz.trans hb7)⟩
          case measure => simp [intOf]; omega
        · go_wp2_with fail
          refine (awake_c wr).mono ?_
          rintro e w14 ⟨rfl, hb14⟩
          go_wp2_with fail
          go_ret
          exact ⟨rfl, gw.trans hb14⟩
    · have HLN := Lib.hid (show leastL l sum = [] by unfold leastL; rw [if_neg hs])
      rw [HLN.out]
      have hne : (askErr l (inB sum 0 9999) != 0) = true := by simp [hs]
      have hee : (askErr l (inB sum 0 9999) == askErr l (inB sum 0 9999)) = true := by simp
      generalize askErr l (inB sum 0 9999) = E at *
      clear hs
      go_wp2_with fail
      refine (awake_c w9).mono ?_
      rintro e w14 ⟨rfl, hb14⟩
      go_wp2_with fail
      go_ret
      exact ⟨rfl, g9.trans hb14⟩
end Go.Proofs.Ytogdhkecpjndlaa.C
