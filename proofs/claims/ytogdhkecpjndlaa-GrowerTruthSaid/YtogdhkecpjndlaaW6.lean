/- The law GrowerClears, walked. -/
import Derived.Test.YtogdhkecpjndlaaGT
import Derived.Test.YtogdhkecpjndlaaW1
set_option linter.unusedSimpArgs false
set_option linter.unusedVariables false
namespace Go.Proofs.Ytogdhkecpjndlaa.C
open Go.RowKit
set_option maxRecDepth 100000

theorem clearL_ref {l : Led} (h : askErr l true = 0) {k : Nat} (hk : k < l.gs.length) : (clearL l).getD k 0 = refClear l (refTruths l) k ∧ (clearL l).length = l.gs.length := by
  unfold clearL boundL
  rw [if_pos h]
  simp [List.getD, hk, clear_ref h]
theorem clearL_len {l : Led} (h : askErr l true = 0) : (clearL l).length = l.gs.length := by
  unfold clearL boundL
  rw [if_pos h]
  simp
theorem clearL_nil {l : Led} (h : ¬ askErr l true = 0) : clearL l = [] := by
  unfold clearL boundL
  rw [if_neg h]
  rfl
theorem askL_err {l : Led} (h : ¬ askErr l true = 0) : askL l = (0, 0, askErr l true) := by unfold askL; rw [if_neg h]
theorem askL_none {l : Led} (h : askErr l true = 0) (hn : l.gs.length = 0) : askL l = (0, 0, 7) := by unfold askL; rw [if_pos h, if_pos hn]

set_option maxHeartbeats 8000000 in
theorem GrowerClears_c {l : Led} {A C : Option Addr} {cA cC : Nat} {w : World} (hL : LedR w l A C) :
    Calls Try.prog 3 #[ledV l A C cA cC] w fun e w' => e = .returned (.bool true) ∧ G w w' := by
  have HL := Lib.hid hL
  clear hL
  cases ht : thin l
  · go_enter Try.func3, Try.ntmps3
    go_wp2_with fail
    have hB : G w (w.alloc (.cells (cells4 l A C cA cC) 27)) := (G.refl _).alloc _
    generalize w.alloc _ = W at *
    refine (Thin_c l A C cA cC W).mono ?_
    rw [ht]
    rintro e w1 ⟨rfl, hb1⟩
    clear ht
    go_wp2_with fail
    refine (awake_c w1).mono ?_
    rintro e w2 ⟨rfl, hb2⟩
    go_wp2_with fail
    go_ret
    exact ⟨rfl, hB.trans (hb1.trans hb2)⟩
  have hthin : l.gs.length ≤ 30 ∧ l.cs.length ≤ 30 := by simpa [thin] using ht
  obtain ⟨hg, hc⟩ := hthin
  go_enter Try.func3, Try.ntmps3
  go_wp2_with fail
  have k0 := LBox.one (w := w) (l := l) (A := A) (C := C) (cA := cA) (cC := cC)
  have hB : G w (w.alloc (.cells (cells4 l A C cA cC) 27)) := (G.refl _).alloc _
  generalize w.alloc _ = W at *
  refine (Thin_c l A C cA cC W).mono ?_
  rw [ht]
  rintro e w1 ⟨rfl, hb1⟩
  have g1 := hB.trans hb1
  have HK := Lib.hid (k0.grow hb1)
  obtain ⟨s0, s1, s2, s3⟩ := HK.out
  clear ht k0 hB hb1
  go_wp2_with fail
  refine (Ledger_c l A C cA cC w1 (HL.out.grow g1) (by omega) (by omega)).mono ?_
  rintro e w2 ⟨⟨A2, C2, cA2, cC2, rfl, hL2, -, -⟩, hb2⟩
  have HL2 := Lib.hid hL2
  clear hL2
  go_wp2_with fail
  refine (Clear_c l A2 C2 cA2 cC2 w2 HL2.out hg hc).mono ?_
  rintro e w3 ⟨⟨v3, rfl, ho3⟩, hb3⟩
  obtain ⟨A3, c3, rfl, -, hr3⟩ := ho3.row
  have HR3 := Lib.hid hr3
  replace HK := Lib.hid (HK.out.grow (hb2.trans hb3))
  have g3 := g1.trans (hb2.trans hb3)
  clear ho3 hr3 HL2 g1 hb2 hb3 s0 s1 s2 s3
  obtain ⟨s0, s1, s2, s3⟩ := HK.out
  go_wp2_with fail
  refine (Ledger_c l A C cA cC w3 (HL.out.grow g3) (by omega) (by omega)).mono ?_
  rintro e w4 ⟨⟨A4, C4, cA4, cC4, rfl, hL4, -, -⟩, hb4⟩
  have HL4 := Lib.hid hL4
  clear hL4
  go_wp2_with fail
  refine (Ask_c l A4 C4 cA4 cC4 w4 HL4.out hg hc).mono ?_
  rintro e w5 ⟨rfl, hb5⟩
  replace HK := Lib.hid (HK.out.grow (hb4.trans hb5))
  replace HR3 := Lib.hid (HR3.out.grow (hb4.trans hb5))
  have g5 := g3.trans (hb4.trans hb5)
  clear HL4 g3 hb4 hb5 s0 s1 s2 s3
  obtain ⟨s0, s1, s2, s3⟩ := HK.out
  go_wp2_with fail
  refine (sure_c (HL.out.grow g5) hg hc).mono ?_
  rintro e w6 ⟨⟨T, cT, rfl, hT⟩, hb6⟩
  replace HK := Lib.hid (HK.out.grow hb6)
  replace HR3 := Lib.hid (HR3.out.grow hb6)
  have g6 := g5.trans hb6
  have HT := Lib.hid hT
  clear g5 hb6 s0 s1 s2 s3 hT
  by_cases he : askErr l true = 0
  · obtain ⟨hV, hp, hne, htn, hcok, hat⟩ := truth_facts he
    have HV := Lib.hid hV
    have HC := Lib.hid hcok
    have hng4 := hV.ng
    have hlen := clearL_len he
    have HCR := Lib.hid (fun (k : Nat) (hk : k < l.gs.length) => (clearL_ref he hk).1)
    have HAR := Lib.hid (fun (hn : 0 < l.gs.length) => ask_ref he hn)
    have HAN := Lib.hid (fun (hn : l.gs.length = 0) => askL_none he hn)
    have hlT := refTruths_len hV
    rw [hat] at HT ⊢
    rw [he, hlen]
    generalize hts : refTruths l = ts at *
    clear hV hp hne htn hcok hat he hts
    obtain ⟨s0, s1, s2, s3⟩ := HK.out
    have hnn : ((l.gs.length : Int) != l.gs.length) = false := by simp
    go_wp2_with fail
    clear hnn s0 s1 s2 s3
    go_loopw [10] (fun v10 wr => ∃ (k : Nat), k ≤ l.gs.length ∧ v10 = .int .i64 k ∧ G w6 wr) (fun v10 _ => l.gs.length - (intOf v10).toNat)
    case atStart => exact ⟨0, by omega, rfl, G.refl _⟩
    case round =>
      obtain ⟨k, hk, rfl, hbr⟩ := hrel
      have gw := g6.trans hbr
      obtain ⟨s0, s1, s2, s3⟩ := HK.out.grow hbr
      by_cases hlt : k < l.gs.length
      · have hkd : k < (clearL l).length := by rw [hlen]; exact hlt
        obtain ⟨b, off, rfl, d0⟩ := HR3.out.at hkd
        have e0 := hbr.cell d0
        have hcr := HCR.out k hlt
        rw [getD_of hkd] at hcr
        rw [hcr] at e0
        have hcall := fun (w1 : World) (h : G w6 w1) => RClear_c (w := w1) (cA := cA) (cC := cC) (cT := cT) HV.out HC.out (HL.out.grow (g6.trans h)) (HT.out.grow h) hlt (by omega)
        clear d0 hcr
        generalize refClear l ts k = d at *
        have hdd : (d != d) = false := by simp
        have hki : (k : Int) < l.gs.length := by omega
        go_wp2_with fail
        refine wp_region_A (by as_aux_lemma => kernel_rfl) ?_
        obtain ⟨z, hz⟩ : ∃ z : World, z = { wr with drawn := wr.drawn + 1 } := ⟨_, rfl⟩
        rw [← hz]
        have gz : G wr z := by rw [hz]; exact (G.refl _).drew
        clear hz
        have HS : LBox z w.heap.size l A C cA cC ∧ z.cell? ⟨b, off + k, none⟩ = some (.int .i64 d) := ⟨HK.out.grow (hbr.trans gz), gz.cell e0⟩
        clear s0 s1 s2 s3 e0
        refine wpAny_fork (fun w' => LBox w' w.heap.size l A C cA cC ∧ w'.cell? ⟨b, off + k, none⟩ = some (.int .i64 d)) 8 ?_
        refine wpAnyU_takes (i := 0) rfl (by as_aux_lemma => kernel_rfl) (fun _ _ _ _ h => h) HS ?_
        apply Exists.intro
        apply And.intro
        · refine Or.inl (And.intro (by rfl) ?_)
          rintro w ⟨⟨s0, s1, s2, s3⟩, s4⟩
          go_simp
          try rfl
        simp only [Act.put, List.setIfInBounds_toArray, List.set_cons_succ, List.set_cons_zero]
        refine wpAnyU_takes (i := 1) rfl (by as_aux_lemma => kernel_rfl) (fun _ _ _ _ h => h) HS ?_
        apply Exists.intro
        apply And.intro
        · refine Or.inl (And.intro (by rfl) ?_)
          rintro w ⟨⟨s0, s1, s2, s3⟩, s4⟩
          go_simp
          try rfl
        simp only [Act.put, List.setIfInBounds_toArray, List.set_cons_succ, List.set_cons_zero]
        refine wpAnyU_takes (i := 2) rfl (by as_aux_lemma => kernel_rfl) (fun _ _ _ _ h => h) HS ?_
        apply Exists.intro
        apply And.intro
        · refine Or.inl (And.intro (by rfl) ?_)
          rintro w ⟨⟨s0, s1, s2, s3⟩, s4⟩
          go_simp
          try rfl
        simp only [Act.put, List.setIfInBounds_toArray, List.set_cons_succ, List.set_cons_zero]
        refine wpAnyU_takes (i := 3) rfl (by as_aux_lemma => kernel_rfl) (fun _ _ _ _ h => h) HS ?_
        apply Exists.intro
        apply And.intro
        · refine Or.inl (And.intro (by rfl) ?_)
          rintro w ⟨⟨s0, s1, s2, s3⟩, s4⟩
          go_simp
          try rfl
        simp only [Act.put, List.setIfInBounds_toArray, List.set_cons_succ, List.set_cons_zero]
        refine wpAnyU_takes (i := 4) rfl (by as_aux_lemma => kernel_rfl) (fun _ _ _ _ h => h) HS ?_
        apply Exists.intro
        apply And.intro
        · refine Or.inl (And.intro (by rfl) ?_)
          rintro w ⟨⟨s0, s1, s2, s3⟩, s4⟩
          go_simp
          try rfl
        simp only [Act.put, List.setIfInBounds_toArray, List.set_cons_succ, List.set_cons_zero]
        refine wpAnyU_takes (i := 5) rfl (by as_aux_lemma => kernel_rfl) (fun _ _ _ _ h => h) HS ?_
        apply Exists.intro
        apply And.intro
        · refine Or.inl (And.intro (by rfl) ?_)
          rintro w ⟨⟨s0, s1, s2, s3⟩, s4⟩
          go_simp
          try rfl
        simp only [Act.put, List.setIfInBounds_toArray, List.set_cons_succ, List.set_cons_zero]
        refine wpAnyU_takes (i := 6) rfl (by as_aux_lemma => kernel_rfl) (fun _ _ _ _ h => h) HS ?_
        apply Exists.intro
        apply And.intro
        · refine Or.inl (And.intro (by rfl) ?_)
          rintro w ⟨⟨s0, s1, s2, s3⟩, s4⟩
          go_simp
          try rfl
        simp only [Act.put, List.setIfInBounds_toArray, List.set_cons_succ, List.set_cons_zero]
        refine wpAnyT_one (i := 7) (by as_aux_lemma => kernel_rfl) rfl ?_
        go_wp2_with fail
        refine (hcall z (hbr.trans gz)).mono ?_
        rintro e w7 ⟨rfl, hb7⟩
        go_wp2_with fail
        refine ⟨⟨HS.1.grow hb7, hb7.cell HS.2⟩, ?_⟩
        refine wpAnyT_close (by as_aux_lemma => kernel_rfl) ?_
        refine wpAny_part (k := 8) (n := 1) (f := 0) rfl rfl (by as_aux_lemma => kernel_rfl) ?_
        simp only [List.drop_succ_cons, List.drop_zero, List.take_succ_cons, List.take_zero]
        go_wp2_with fail
        refine wpAny_done (by as_aux_lemma => kernel_rfl) ?_
        go_wp2_with fail
        go_roundw
        case rel => exact ⟨k + 1, by omega, by go_num, hbr.trans (gz.trans hb7)⟩
        case measure => simp [intOf]; omega
      · by_cases hn : l.gs.length = 0
        · have HAE := Lib.hid (HAN.out hn)
          have hn0 : ((l.gs.length : Int) == 0) = true := by simp [hn]
          rw [HAE.out]
          clear hn
          go_wp2_with fail
          refine (awake_c wr).mono ?_
          rintro e w14 ⟨rfl, hb14⟩
          go_wp2_with fail
          go_ret
          exact ⟨rfl, gw.trans hb14⟩
        · have HAE := Lib.hid (HAR.out (by omega))
          have hn0 : ((l.gs.length : Int) == 0) = false := by rw [beq_eq_false_iff_ne]; omega
          have hcall := RAsk_c (l := l) (A := A) (C := C) (cA := cA) (cC := cC) (cT := cT) (w := wr) (by omega) hng4 (HT.out.grow hbr) (fun c hc => (HC.out c hc).len) (by omega)
          rw [HAE.out]
          clear hn
          generalize ((refAskTo ts (l.gs.length - 1)).1 : Int) = qa at *
          generalize ((refAskTo ts (l.gs.length - 1)).2 : Int) = qm at *
          have haa : (qa == qa) = true := by simp
          have hmm : (qm == qm) = true := by simp
          go_wp2_with fail
          refine hcall.mono ?_
          rintro e w7 ⟨rfl, hb7⟩
          go_wp2_with fail
          refine (awake_c w7).mono ?_
          rintro e w14 ⟨rfl, hb14⟩
          go_wp2_with fail
          go_ret
          exact ⟨rfl, gw.trans (hb7.trans hb14)⟩
  · have HAE := Lib.hid (askL_err he)
    have HCN := Lib.hid (clearL_nil he)
    rw [HAE.out, HCN.out]
    have hne : (askErr l true != 0) = true := by simp [he]
    have hee : (askErr l true == askErr l true) = true := by simp
    generalize askErr l true = E at *
    clear he
    go_wp2_with fail
    refine (awake_c w6).mono ?_
    rintro e w14 ⟨rfl, hb14⟩
    go_wp2_with fail
    go_ret
    exact ⟨rfl, g6.trans hb14⟩
end Go.Proofs.Ytogdhkecpjndlaa.C
