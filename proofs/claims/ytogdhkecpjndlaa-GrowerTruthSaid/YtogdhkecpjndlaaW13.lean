/- The law GrowerFull, walked. -/
import Derived.Test.YtogdhkecpjndlaaQ9
import Derived.Test.YtogdhkecpjndlaaF3
import Derived.Test.YtogdhkecpjndlaaW4
set_option linter.unusedSimpArgs false
set_option linter.unusedVariables false
namespace Go.Proofs.Ytogdhkecpjndlaa.C
open Go.RowKit
set_option maxRecDepth 100000

theorem anyR_succ (p : Nat → Bool) (k : Nat) : (List.range (k + 1)).any p = ((List.range k).any p || p k) := by
  rw [List.range_succ, List.any_append]
  simp
theorem pos_row {l : Led} {c : Cn} {k : Nat} (hk : k < l.gs.length) (h : k < ((dues l c).map pos).length) : ((dues l c).map pos)[k] = pos (owed l c k) := by
  rw [List.getElem_map, ← getD_of (by simpa using h), dues_getD hk]
set_option maxHeartbeats 16000000 in
theorem GrowerFull_c {l : Led} {A C : Option Addr} {cA cC : Nat} {a : Int} {w : World} (hL : LedR w l A C) (ha : (Lit.int .u16 a).wf = true) :
    Calls Try.prog 10 #[ledV l A C cA cC, .int .u16 a] w fun e w' => e = .returned (.bool true) ∧ G w w' := by
  have HL := Lib.hid hL
  have ha2 : 0 ≤ a ∧ a ≤ 65535 := by simpa [Lit.wf, IntKind.min, IntKind.max, IntKind.signed, IntKind.bits] using ha
  clear hL ha
  cases hr : readyB l
  · go_enter Try.func10, Try.ntmps10
    go_wp2_with fail
    have hB : G w (w.alloc (.cells #[.int .i64 l.lo, .int .i64 l.hi, .slice A l.gs.length cA, .slice C l.cs.length cC] 27)) := (G.refl _).alloc _
    generalize w.alloc _ = W at *
    refine (ready_c (HL.out.grow hB)).mono ?_
    rw [hr]
    rintro e w1 ⟨rfl, hb1⟩
    clear hr
    go_wp2_with fail
    refine (awake_c w1).mono ?_
    rintro e w2 ⟨rfl, hb2⟩
    go_wp2_with fail
    go_ret
    exact ⟨rfl, hB.trans (hb1.trans hb2)⟩
  obtain ⟨hg, hc, hf, hV⟩ := readyB_iff hr
  have HV := Lib.hid hV
  have HF := Lib.hid hf
  have hng := hV.ng
  have hnc := hV.nc
  clear hf hV
  go_enter Try.func10, Try.ntmps10
  go_wp2_with fail
  have hB : G w (w.alloc (.cells #[.int .i64 l.lo, .int .i64 l.hi, .slice A l.gs.length cA, .slice C l.cs.length cC] 27)) := (G.refl _).alloc _
  have k0 := LBox.one (w := w) (l := l) (A := A) (C := C) (cA := cA) (cC := cC)
  generalize w.alloc _ = W0 at *
  refine (ready_c (HL.out.grow hB)).mono ?_
  rw [hr]
  rintro e W ⟨rfl, hb1⟩
  have HK := Lib.hid (k0.grow hb1)
  replace hB := hB.trans hb1
  clear hr hb1 k0
  obtain ⟨s0, s1, s2, s3⟩ := HK.out
  -- Ledger of l A C cA cC (its LedR HL.out.grow hB at the world W), to w2 by hb2; lengths by omega; HX: the new LedR
  go_wp2_with fail
  refine (Ledger_c l A C cA cC W (HL.out.grow hB) (by omega) (by omega)).mono ?_
  rintro e w2 ⟨⟨AX, CX, cAX, cCX, rfl, hLX, hcA, hcC⟩, hb2⟩
  have HX := Lib.hid hLX
  clear hLX
  go_wp2_with fail
  refine (Full_c l AX CX cAX cCX w2 HX.out hg hc).mono ?_
  rintro e w3 ⟨rfl, hb3⟩
  have hb23 := hb2.trans hb3
  -- box kept over hb23; growth hB renewed to g3
  replace HK := Lib.hid (HK.out.grow hb23)
  have g3 := (hB).trans hb23
  clear s0 s1 s2 s3
  obtain ⟨s0, s1, s2, s3⟩ := HK.out
  clear HX hcA hcC hb2 hb3 hb23 hB
  go_wp2_with fail
  have hw1 : IntKind.i64.wrap a = a := IntWalk.i64_in _ (by omega)
  have htm : a.tmod 10000 = a % 10000 := Int.tmod_eq_emod_of_nonneg ha2.1
  have hq := mod_bd (m := a) (s := 10000) (by omega)
  have hw2 : IntKind.i64.wrap (a % 10000) = a % 10000 := IntWalk.i64_in _ (by omega)
  have hin : inB (a % 10000) 0 9999 = true := inB_iff.2 (by omega)
  -- Ledger of l A C cA cC (its LedR HL.out.grow g3 at the world w3), to w4 by hb4; lengths by omega; HX: the new LedR
  go_wp2_with fail
  refine (Ledger_c l A C cA cC w3 (HL.out.grow g3) (by omega) (by omega)).mono ?_
  rintro e w4 ⟨⟨AX, CX, cAX, cCX, rfl, hLX, hcA, hcC⟩, hb4⟩
  have HX := Lib.hid hLX
  clear hLX
  go_wp2_with fail
  refine (Least_c l AX CX cAX cCX (a % 10000) w4 HX.out hg hc).mono ?_
  rw [hin]
  rintro e w5 ⟨⟨v5, rfl, ho5⟩, hb5⟩
  obtain ⟨A5, c5, rfl, -, hr5⟩ := ho5.row
  have HR5 := Lib.hid hr5
  have hb45 := hb4.trans hb5
  -- box kept over hb45; growth g3 renewed to g5
  replace HK := Lib.hid (HK.out.grow hb45)
  have g5 := (g3).trans hb45
  clear s0 s1 s2 s3
  obtain ⟨s0, s1, s2, s3⟩ := HK.out
  have HW1 := Lib.hid hw1
  have HTM := Lib.hid htm
  have HW2 := Lib.hid hw2
  clear HX hcA hcC hb4 hb5 hb45 g3 ho5 hr5 hw1 htm hw2 hin
  go_wp2_with fail
  refine (Truths_c (cA := cA) (cC := cC) HV.out (HL.out.grow g5)).mono ?_
  rintro e w6 ⟨⟨T, cT, rfl, hT⟩, hb6⟩
  have HT := Lib.hid hT
  replace HR5 := Lib.hid (HR5.out.grow hb6)
  -- box kept over hb6; growth g5 renewed to g8
  replace HK := Lib.hid (HK.out.grow hb6)
  have g8 := (g5).trans hb6
  clear s0 s1 s2 s3
  obtain ⟨s0, s1, s2, s3⟩ := HK.out
  clear hb6 g5 hT
  obtain ⟨w8, rfl⟩ : ∃ w8 : World, w8 = w6 := ⟨_, rfl⟩
  by_cases he : askErr l true = 0
  · obtain ⟨hV, hp, hne, htn, hcok, hat⟩ := truth_facts he
    have hlT := refTruths_len hV
    have hff := full_facts he
    have HFL := Lib.hid (full_less he)
    have hin9 : inB (a % 10000) 0 9999 = true := inB_iff.2 (by omega)
    have hlen := least_len (l := l) (sum := a % 10000) (by rw [hin9]; exact he)
    have hleq : leastL l (a % 10000) = leastM l (a % 10000) (truthsL l) := by unfold leastL; rw [hin9, if_pos he]
    have HLS := Lib.hid (least_sum he (sum := a % 10000) (by omega))
    have HLA := Lib.hid (fun (k : Nat) (hk : k < l.gs.length) => (least_at he (sum := a % 10000) (by omega) hk))
    rw [← hleq] at HLS HLA
    have HCM := Lib.hid (fun (c : Cn) (h : c ∈ refTruths l) => (truth_of.1 (hp.mem_iff.1 h)).1)
    have HTB := Lib.hid hff.2.2
    have hn0 := hff.1
    have hn1 := hff.2.1
    have hl0 : ((((refTruths l).length : Nat) : Int) == 0) = false := by
      cases hh : refTruths l with
      | nil => exact absurd hh htn
      | cons y ys => simp; omega
    rw [he, hlen]
    have HCK0 := Lib.hid hcok
    have hng := HV.out.ng
    clear hV hp hne htn hat he hff hcok hin9 hleq
    generalize hts : refTruths l = ts at *
    generalize hnf : fullL l = n at *
    generalize hls : leastL l (a % 10000) = ls at *
    clear hts hnf hls
    obtain ⟨nm, HNM⟩ : ∃ nm, Hid (IntKind.i64.wrap (n - 1) = nm) := ⟨_, rfl⟩
    have HFW := Lib.hid (show (if 0 < nm then nm else 0) = fullLess n by rw [← HNM.out, IntWalk.i64_in _ (by omega)]; rfl)
    have hinn : inB n 0 9999 = true := inB_iff.2 (by omega)
    have hnn : ((l.gs.length : Int) != l.gs.length) = false := by simp
    go_wp2_with fail
    refine (In_c _ _ _ _).mono ?_
    rw [hinn]
    rintro e w9 ⟨rfl, rfl⟩
    go_wp2_with fail
    clear hinn hnn hl0
    go_loopw [10, 11] (fun v10 v11 wr => ∃ (k : Nat) (sv : Int), k ≤ l.gs.length ∧ v11 = .int .i64 k ∧ v10 = .int .i64 sv ∧ 0 ≤ sv ∧ sv ≤ 270 * k ∧ Hid (sv = (ls.take k).sum) ∧ G w8 wr) (fun _ v11 _ => l.gs.length - (intOf v11).toNat)
    case atStart => exact ⟨0, 0, by omega, rfl, rfl, by omega, by omega, by simp [Hid], G.refl _⟩
    case round =>
      obtain ⟨k, sv, hk, rfl, rfl, hsv0, hsv1, HSV, hbr⟩ := hrel
      by_cases hlt : k < l.gs.length
      · have hlt1 : k < ls.length := by omega
        have hki : (k : Int) < l.gs.length := by omega
        obtain ⟨b4, off4, rfl, d4⟩ := HR5.out.at hlt1
        have e4 := hbr.cell d4
        have hx := HLA.out k hlt
        rw [getD_of hlt1] at hx
        have HTS := Lib.hid (take_sum hlt1)
        clear d4
        generalize ls[k] = x at *
        have hx0 := hx.1
        have hx1 := hx.2.1
        clear hx
        go_wp2_with fail
        go_roundw
        case rel => exact ⟨k + 1, sv + x, by omega, by go_num, by go_num, by omega, by omega, by rw [Hid, HTS.out, HSV.out], hbr⟩
        case measure => simp [intOf] <;> omega
      · obtain rfl : k = l.gs.length := by omega
        have hsum : sv ≤ a % 10000 := by
          have h1 := HSV.out
          rw [← hlen, List.take_length] at h1
          rw [h1]
          exact HLS.out
        obtain ⟨wa, rfl⟩ : ∃ wa : World, wa = wr := ⟨_, rfl⟩
        have HT2 := Lib.hid (HT.out.grow hbr)
        have HKa := Lib.hid (HK.out.grow hbr)
        have ga := g8.trans hbr
        clear HT HK g8 HLS HLA HR5 HSV s0 s1 s2 s3
        have HT := HT2
        have HK := HKa
        have g8 := ga
        clear HT2 HKa ga hbr
        obtain ⟨w8, rfl⟩ : ∃ w8 : World, w8 = wa := ⟨_, rfl⟩
        have hlt2 : ¬ (l.gs.length : Int) < l.gs.length := by omega
        have hdn : ((n == 0) : Bool) = decide (n = 0) := by by_cases h : n = 0 <;> simp [h]
        have HDN := Lib.hid hdn
        clear hdn
        go_wp2_with fail
        clear hlt2
        go_loopw [12, 13] (fun v12 v13 wr => ∃ (i : Nat), i ≤ ts.length ∧ v13 = .int .i64 i ∧ v12 = .bool (decide (n = 0) || (ts.take i).any (lessIn l n)) ∧ G w8 wr) (fun _ v13 _ => ts.length - (intOf v13).toNat)
        case atStart => exact ⟨0, by omega, rfl, by simp [HDN.out], G.refl _⟩
        case round =>
          obtain ⟨i, hi, rfl, rfl, hbr⟩ := hrel
          by_cases hlti : i < ts.length
          · obtain ⟨b, off, B, cB, rfl, d0, d1, dB⟩ := HT.out.at hlti
            have HD0 := Lib.hid d0
            have HD1 := Lib.hid d1
            have HRB := Lib.hid dB
            have hmem := List.getElem_mem hlti
            have HCK := Lib.hid (HCK0.out _ hmem)
            have hcm := HCM.out _ hmem
            have htb := HTB.out _ hmem
            have hbl : ts[i].bs.length ≤ 30 := by have := HCK.out.len; omega
            obtain ⟨he1, hs1⟩ := shareR_ok (n := n) HF.out hcm (by omega) (by omega)
            rw [share_all htb] at hs1
            have hfl0 : 0 ≤ fullLess n ∧ fullLess n ≤ 9999 := by unfold fullLess; split <;> omega
            obtain ⟨he2, hs2⟩ := shareR_ok (n := fullLess n) HF.out hcm hfl0.1 hfl0.2
            have HE1 := Lib.hid he1
            have HS1 := Lib.hid hs1
            have HE2 := Lib.hid he2
            have HS2 := Lib.hid hs2
            have e0 := hbr.cell d0
            have e1 := hbr.cell d1
            generalize hci : ts[i] = c at *
            obtain ⟨bs, hbs⟩ : ∃ bs, bs = (decide (n = 0) || (ts.take i).any (lessIn l n)) := ⟨_, rfl⟩
            have HTK := Lib.hid (show (decide (n = 0) || (ts.take (i + 1)).any (lessIn l n)) = (bs || lessIn l n c) by rw [anyC_take hlti, hci, ← Bool.or_assoc, ← hbs])
            rw [← hbs]
            clear hbs
            clear d0 d1 dB he1 hs1 he2 hs2 hcm htb hmem hci
            obtain ⟨s0, s1, s2, s3⟩ := HK.out.grow hbr
            go_wp2_with fail
            -- from world wr grown from w8 by hbr: the ledger, the count, the shares of n (takes 0 2 3 4 5 7); the call's part 8 2 4; the result's list q at world q
            refine wp_region_A (by as_aux_lemma => kernel_rfl) ?_
            obtain ⟨z, hz⟩ : ∃ z : World, z = { wr with drawn := wr.drawn + 1 } := ⟨_, rfl⟩
            rw [← hz]
            have gz : G wr z := by rw [hz]; exact (G.refl _).drew
            clear hz
            have HS : LBox z w.heap.size l A C cA cC ∧ z.cell? ⟨b, off + i * 2, none⟩ = some (.int .i64 c.r) ∧ z.cell? ⟨b, off + i * 2 + 1, none⟩ = some (.slice B c.bs.length cB) := ⟨HK.out.grow ((hbr).trans gz), gz.cell e0, gz.cell e1⟩
            clear s0 s1 s2 s3 e0 e1
            refine wpAny_fork (fun w' => LBox w' w.heap.size l A C cA cC ∧ w'.cell? ⟨b, off + i * 2, none⟩ = some (.int .i64 c.r) ∧ w'.cell? ⟨b, off + i * 2 + 1, none⟩ = some (.slice B c.bs.length cB)) 8 ?_
            refine wpAnyU_takes' (i := 0) rfl (by as_aux_lemma => kernel_rfl) (fun _ _ _ _ h => h) HS ?_
            apply Exists.intro
            apply And.intro
            · refine Or.inl (And.intro (by rfl) ?_)
              rintro w ⟨⟨s0, s1, s2, s3⟩, s4, s5⟩
              go_simp
              try rfl
            simp only [Act.put, List.setIfInBounds_toArray, List.set_cons_succ, List.set_cons_zero]
            refine wpAnyU_takes' (i := 2) rfl (by as_aux_lemma => kernel_rfl) (fun _ _ _ _ h => h) HS ?_
            apply Exists.intro
            apply And.intro
            · refine Or.inl (And.intro (by rfl) ?_)
              rintro w ⟨⟨s0, s1, s2, s3⟩, s4, s5⟩
              go_simp
              try rfl
            simp only [Act.put, List.setIfInBounds_toArray, List.set_cons_succ, List.set_cons_zero]
            refine wpAnyU_takes' (i := 3) rfl (by as_aux_lemma => kernel_rfl) (fun _ _ _ _ h => h) HS ?_
            apply Exists.intro
            apply And.intro
            · refine Or.inl (And.intro (by rfl) ?_)
              rintro w ⟨⟨s0, s1, s2, s3⟩, s4, s5⟩
              go_simp
              try rfl
            simp only [Act.put, List.setIfInBounds_toArray, List.set_cons_succ, List.set_cons_zero]
            refine wpAnyU_takes' (i := 4) rfl (by as_aux_lemma => kernel_rfl) (fun _ _ _ _ h => h) HS ?_
            apply Exists.intro
            apply And.intro
            · refine Or.inl (And.intro (by rfl) ?_)
              rintro w ⟨⟨s0, s1, s2, s3⟩, s4, s5⟩
              go_simp
              try rfl
            simp only [Act.put, List.setIfInBounds_toArray, List.set_cons_succ, List.set_cons_zero]
            refine wpAnyU_takes' (i := 5) rfl (by as_aux_lemma => kernel_rfl) (fun _ _ _ _ h => h) HS ?_
            apply Exists.intro
            apply And.intro
            · refine Or.inl (And.intro (by rfl) ?_)
              rintro w ⟨⟨s0, s1, s2, s3⟩, s4, s5⟩
              go_simp
              try rfl
            simp only [Act.put, List.setIfInBounds_toArray, List.set_cons_succ, List.set_cons_zero]
            refine wpAnyU_takes' (i := 7) rfl (by as_aux_lemma => kernel_rfl) (fun _ _ _ _ h => h) HS ?_
            apply Exists.intro
            apply And.intro
            · refine Or.inl (And.intro (by rfl) ?_)
              rintro w ⟨⟨s0, s1, s2, s3⟩, s4, s5⟩
              go_simp
              try rfl
            simp only [Act.put, List.setIfInBounds_toArray, List.set_cons_succ, List.set_cons_zero]
            refine wpAnyT_one' (i := 1) (by as_aux_lemma => kernel_rfl) rfl ?_
            go_wp2_with fail
            refine (Ledger_c l A C cA cC z (HL.out.grow (g8.trans ((hbr).trans gz))) (by omega) (by omega)).mono ?_
            rintro e x2 ⟨⟨A2, C2, cA2, cC2, rfl, hL2, -, -⟩, hb2⟩
            have HL2 := Lib.hid hL2
            clear hL2
            go_wp2_with fail
            replace HS : LBox x2 w.heap.size l A C cA cC ∧ x2.cell? ⟨b, off + i * 2, none⟩ = some (.int .i64 c.r) ∧ x2.cell? ⟨b, off + i * 2 + 1, none⟩ = some (.slice B c.bs.length cB) := ⟨HS.1.grow hb2, hb2.cell HS.2.1, hb2.cell HS.2.2⟩
            refine ⟨HS, ?_⟩
            refine wpAnyT_one' (i := 6) (by as_aux_lemma => kernel_rfl) rfl ?_
            go_wp2_with fail
            refine (Count_c c B cB x2 (HRB.out.grow ((hbr).trans (gz.trans hb2))) (by omega)).mono ?_
            rintro e x3 ⟨⟨B3, c3, rfl, hr3⟩, hb3⟩
            have HRC := Lib.hid hr3
            clear hr3
            go_wp2_with fail
            refine ⟨⟨HS.1.grow hb3, hb3.cell HS.2.1, hb3.cell HS.2.2⟩, ?_⟩
            refine wpAnyT_close (by as_aux_lemma => kernel_rfl) ?_
            refine wpAny_part (k := 8) (n := 2) (f := 4) rfl rfl (by as_aux_lemma => kernel_rfl) ?_
            simp only [List.drop_succ_cons, List.drop_zero, List.take_succ_cons, List.take_zero]
            go_wp2_with fail
            refine (Share_c l A2 C2 B3 cA2 cC2 c3 c (n) x3 (HL2.out.grow hb3) HRC.out hg hc hbl).mono ?_
            rw [HE1.out, HS1.out]
            rintro e w10 ⟨⟨v10, rfl, ho10⟩, hb10⟩
            obtain ⟨A10, c10, rfl, -, hr10⟩ := ho10.row
            have HR10 := Lib.hid hr10
            have hb810 := hbr.trans (gz.trans (hb2.trans (hb3.trans hb10)))
            clear ho10 hr10 HL2 HRC HS gz hb2 hb3 hb10
            have HS : True := trivial
            go_wp2_with fail
            refine wpAny_fork (fun _ => True) 13 ?_
            refine wpAnyU_takes' (i := 10) rfl (by as_aux_lemma => kernel_rfl) (fun _ _ _ _ h => h) HS ?_
            apply Exists.intro
            apply And.intro
            · refine Or.inl (And.intro (by rfl) ?_)
              rintro w s0
              go_simp
              try rfl
            simp only [Act.put, List.setIfInBounds_toArray, List.set_cons_succ, List.set_cons_zero]
            refine wpAnyU_takes' (i := 11) rfl (by as_aux_lemma => kernel_rfl) (fun _ _ _ _ h => h) HS ?_
            apply Exists.intro
            apply And.intro
            · refine Or.inl (And.intro (by rfl) ?_)
              rintro w s0
              go_simp
              try rfl
            simp only [Act.put, List.setIfInBounds_toArray, List.set_cons_succ, List.set_cons_zero]
            refine wpAnyU_takes' (i := 12) rfl (by as_aux_lemma => kernel_rfl) (fun _ _ _ _ h => h) HS ?_
            apply Exists.intro
            apply And.intro
            · refine Or.inl (And.intro (by rfl) ?_)
              rintro w s0
              go_simp
              try rfl
            simp only [Act.put, List.setIfInBounds_toArray, List.set_cons_succ, List.set_cons_zero]
            refine wpAnyT_close (by as_aux_lemma => kernel_rfl) ?_
            refine wpAny_part (k := 13) (n := 1) (f := 0) rfl rfl (by as_aux_lemma => kernel_rfl) ?_
            simp only [List.drop_succ_cons, List.drop_zero, List.take_succ_cons, List.take_zero]
            go_wp2_with fail
            refine wpAny_done (by as_aux_lemma => kernel_rfl) ?_
            clear HS
            obtain ⟨s0, s1, s2, s3⟩ := HK.out.grow hb810
            have e0 := hb810.cell HD0.out
            have e1 := hb810.cell HD1.out
            go_wp2_with fail
            -- from world w10 grown from w8 by hb810: the ledger, the count, the shares of fullLess n (takes 0 2 3 4 5 7); the call's part 10 2 4; the result's list q at world w11
            refine wp_region_A (by as_aux_lemma => kernel_rfl) ?_
            obtain ⟨z, hz⟩ : ∃ z : World, z = { w10 with drawn := w10.drawn + 1 } := ⟨_, rfl⟩
            rw [← hz]
            have gz : G w10 z := by rw [hz]; exact (G.refl _).drew
            clear hz
            have HS : LBox z w.heap.size l A C cA cC ∧ z.cell? ⟨b, off + i * 2, none⟩ = some (.int .i64 c.r) ∧ z.cell? ⟨b, off + i * 2 + 1, none⟩ = some (.slice B c.bs.length cB) := ⟨HK.out.grow ((hb810).trans gz), gz.cell e0, gz.cell e1⟩
            clear s0 s1 s2 s3 e0 e1
            refine wpAny_fork (fun w' => LBox w' w.heap.size l A C cA cC ∧ w'.cell? ⟨b, off + i * 2, none⟩ = some (.int .i64 c.r) ∧ w'.cell? ⟨b, off + i * 2 + 1, none⟩ = some (.slice B c.bs.length cB)) 10 ?_
            refine wpAnyU_takes' (i := 0) rfl (by as_aux_lemma => kernel_rfl) (fun _ _ _ _ h => h) HS ?_
            apply Exists.intro
            apply And.intro
            · refine Or.inl (And.intro (by rfl) ?_)
              rintro w ⟨⟨s0, s1, s2, s3⟩, s4, s5⟩
              go_simp
              try rfl
            simp only [Act.put, List.setIfInBounds_toArray, List.set_cons_succ, List.set_cons_zero]
            refine wpAnyU_takes' (i := 2) rfl (by as_aux_lemma => kernel_rfl) (fun _ _ _ _ h => h) HS ?_
            apply Exists.intro
            apply And.intro
            · refine Or.inl (And.intro (by rfl) ?_)
              rintro w ⟨⟨s0, s1, s2, s3⟩, s4, s5⟩
              go_simp
              try rfl
            simp only [Act.put, List.setIfInBounds_toArray, List.set_cons_succ, List.set_cons_zero]
            refine wpAnyU_takes' (i := 3) rfl (by as_aux_lemma => kernel_rfl) (fun _ _ _ _ h => h) HS ?_
            apply Exists.intro
            apply And.intro
            · refine Or.inl (And.intro (by rfl) ?_)
              rintro w ⟨⟨s0, s1, s2, s3⟩, s4, s5⟩
              go_simp
              try rfl
            simp only [Act.put, List.setIfInBounds_toArray, List.set_cons_succ, List.set_cons_zero]
            refine wpAnyU_takes' (i := 4) rfl (by as_aux_lemma => kernel_rfl) (fun _ _ _ _ h => h) HS ?_
            apply Exists.intro
            apply And.intro
            · refine Or.inl (And.intro (by rfl) ?_)
              rintro w ⟨⟨s0, s1, s2, s3⟩, s4, s5⟩
              go_simp
              try rfl
            simp only [Act.put, List.setIfInBounds_toArray, List.set_cons_succ, List.set_cons_zero]
            refine wpAnyU_takes' (i := 5) rfl (by as_aux_lemma => kernel_rfl) (fun _ _ _ _ h => h) HS ?_
            apply Exists.intro
            apply And.intro
            · refine Or.inl (And.intro (by rfl) ?_)
              rintro w ⟨⟨s0, s1, s2, s3⟩, s4, s5⟩
              go_simp
              try rfl
            simp only [Act.put, List.setIfInBounds_toArray, List.set_cons_succ, List.set_cons_zero]
            refine wpAnyU_takes' (i := 7) rfl (by as_aux_lemma => kernel_rfl) (fun _ _ _ _ h => h) HS ?_
            apply Exists.intro
            apply And.intro
            · refine Or.inl (And.intro (by rfl) ?_)
              rintro w ⟨⟨s0, s1, s2, s3⟩, s4, s5⟩
              go_simp
              try rfl
            simp only [Act.put, List.setIfInBounds_toArray, List.set_cons_succ, List.set_cons_zero]
            refine wpAnyU_take' (i := 8) (v := .int .i64 nm) rfl (by as_aux_lemma => kernel_rfl) (fun _ _ _ h => h) HS (Or.inl ⟨by rfl, ?_⟩) ?_
            · rintro w ⟨⟨s0, s1, s2, s3⟩, s4, s5⟩
              go_simp
              exact HNM.out
            simp only [Act.put, List.setIfInBounds_toArray, List.set_cons_succ, List.set_cons_zero]
            refine wpAnyU_take' (i := 9) (v := .int .i64 (fullLess n)) rfl (by as_aux_lemma => kernel_rfl) (fun _ _ _ h => h) HS (Or.inl ⟨by rfl, ?_⟩) ?_
            · rintro w ⟨⟨s0, s1, s2, s3⟩, s4, s5⟩
              go_simp
              exact HFW.out
            simp only [Act.put, List.setIfInBounds_toArray, List.set_cons_succ, List.set_cons_zero]
            refine wpAnyT_one' (i := 1) (by as_aux_lemma => kernel_rfl) rfl ?_
            go_wp2_with fail
            refine (Ledger_c l A C cA cC z (HL.out.grow (g8.trans ((hb810).trans gz))) (by omega) (by omega)).mono ?_
            rintro e x2 ⟨⟨A2, C2, cA2, cC2, rfl, hL2, -, -⟩, hb2⟩
            have HL2 := Lib.hid hL2
            clear hL2
            go_wp2_with fail
            replace HS : LBox x2 w.heap.size l A C cA cC ∧ x2.cell? ⟨b, off + i * 2, none⟩ = some (.int .i64 c.r) ∧ x2.cell? ⟨b, off + i * 2 + 1, none⟩ = some (.slice B c.bs.length cB) := ⟨HS.1.grow hb2, hb2.cell HS.2.1, hb2.cell HS.2.2⟩
            refine ⟨HS, ?_⟩
            refine wpAnyT_one' (i := 6) (by as_aux_lemma => kernel_rfl) rfl ?_
            go_wp2_with fail
            refine (Count_c c B cB x2 (HRB.out.grow ((hb810).trans (gz.trans hb2))) (by omega)).mono ?_
            rintro e x3 ⟨⟨B3, c3, rfl, hr3⟩, hb3⟩
            have HRC := Lib.hid hr3
            clear hr3
            go_wp2_with fail
            refine ⟨⟨HS.1.grow hb3, hb3.cell HS.2.1, hb3.cell HS.2.2⟩, ?_⟩
            refine wpAnyT_close (by as_aux_lemma => kernel_rfl) ?_
            refine wpAny_part (k := 10) (n := 2) (f := 4) rfl rfl (by as_aux_lemma => kernel_rfl) ?_
            simp only [List.drop_succ_cons, List.drop_zero, List.take_succ_cons, List.take_zero]
            go_wp2_with fail
            refine (Share_c l A2 C2 B3 cA2 cC2 c3 c (fullLess n) x3 (HL2.out.grow hb3) HRC.out hg hc hbl).mono ?_
            rw [HE2.out, HS2.out]
            rintro e w11 ⟨⟨v11, rfl, ho11⟩, hb11⟩
            obtain ⟨A11, c11, rfl, -, hr11⟩ := ho11.row
            have HR11 := Lib.hid hr11
            have hb1011 := gz.trans (hb2.trans (hb3.trans hb11))
            have hb811 := hb810.trans hb1011
            replace HR10 := Lib.hid (HR10.out.grow hb1011)
            clear ho11 hr11 HL2 HRC HS gz hb2 hb3 hb11 hb1011 hb810
            have HS : True := trivial
            go_wp2_with fail
            refine wpAny_fork (fun _ => True) 15 ?_
            refine wpAnyU_takes' (i := 12) rfl (by as_aux_lemma => kernel_rfl) (fun _ _ _ _ h => h) HS ?_
            apply Exists.intro
            apply And.intro
            · refine Or.inl (And.intro (by rfl) ?_)
              rintro w s0
              go_simp
              try rfl
            simp only [Act.put, List.setIfInBounds_toArray, List.set_cons_succ, List.set_cons_zero]
            refine wpAnyU_takes' (i := 13) rfl (by as_aux_lemma => kernel_rfl) (fun _ _ _ _ h => h) HS ?_
            apply Exists.intro
            apply And.intro
            · refine Or.inl (And.intro (by rfl) ?_)
              rintro w s0
              go_simp
              try rfl
            simp only [Act.put, List.setIfInBounds_toArray, List.set_cons_succ, List.set_cons_zero]
            refine wpAnyU_takes' (i := 14) rfl (by as_aux_lemma => kernel_rfl) (fun _ _ _ _ h => h) HS ?_
            apply Exists.intro
            apply And.intro
            · refine Or.inl (And.intro (by rfl) ?_)
              rintro w s0
              go_simp
              try rfl
            simp only [Act.put, List.setIfInBounds_toArray, List.set_cons_succ, List.set_cons_zero]
            refine wpAnyT_close (by as_aux_lemma => kernel_rfl) ?_
            refine wpAny_part (k := 15) (n := 1) (f := 0) rfl rfl (by as_aux_lemma => kernel_rfl) ?_
            simp only [List.drop_succ_cons, List.drop_zero, List.take_succ_cons, List.take_zero]
            go_wp2_with fail
            refine wpAny_done (by as_aux_lemma => kernel_rfl) ?_
            clear HS
            obtain ⟨s0, s1, s2, s3⟩ := HK.out.grow hb811
            have hl10 : ((dues l c).map pos).length = l.gs.length := by rw [List.length_map, dues_len]
            have hl11 : (shareL (dues l c) (fullLess n)).length = l.gs.length := by rw [shareL_len, dues_len]
            have HPR := Lib.hid (fun (k : Nat) (hk : k < l.gs.length) (h : k < ((dues l c).map pos).length) => pos_row (l := l) (c := c) hk h)
            have HLS := Lib.hid (show ∀ k, lessAt l n c k = decide ((shareL (dues l c) (fullLess n)).getD k 0 < pos (owed l c k)) from fun k => rfl)
            have HLI := Lib.hid (show lessIn l n c = (List.range l.gs.length).any (lessAt l n c) from rfl)
            generalize hdp : (dues l c).map pos = dp at *
            generalize hsl : shareL (dues l c) (fullLess n) = sl at *
            clear hdp hsl HE1 HS1 HE2 HS2
            rw [show (dues l c).length = l.gs.length from dues_len l c, hl11]
            have hnn : ((l.gs.length : Int) != l.gs.length) = false := by simp
            go_wp2_with fail
            obtain ⟨wo, rfl⟩ : ∃ wo : World, wo = w11 := ⟨_, rfl⟩
            clear s0 s1 s2 s3 hnn
            go_loopw [18, 12] (fun v18 v12 wr => ∃ (k : Nat), k ≤ l.gs.length ∧ v18 = .int .i64 k ∧ v12 = .bool (bs || (List.range k).any (lessAt l n c)) ∧ G wo wr) (fun v18 _ _ => l.gs.length - (intOf v18).toNat)
            case atStart => exact ⟨0, by omega, rfl, by simp, G.refl _⟩
            case round =>
              obtain ⟨k, hk, rfl, rfl, hbq⟩ := hrel
              have hb8q := hb811.trans hbq
              by_cases hlt : k < l.gs.length
              · have hki : (k : Int) < l.gs.length := by omega
                obtain ⟨p1, o1, rfl, f1⟩ := HR10.out.at (show k < dp.length by omega)
                obtain ⟨p2, o2, rfl, f2⟩ := HR11.out.at (show k < sl.length by omega)
                rw [HPR.out k hlt (by omega)] at f1
                have HLE := Lib.hid (HLS.out k)
                rw [getD_of (show k < sl.length by omega)] at HLE
                have HF1 := Lib.hid f1
                have HF2 := Lib.hid f2
                clear f1 f2
                generalize sl[k] = tk at *
                have hcall := fun (z : World) (h : G w8 z) => Owed_c (C := C) (cA := cA) (cC := cC) (cB := cB) (w := z) HV.out HCK.out (HL.out.g.grow (g8.trans h)) (HRB.out.grow h) hlt
                generalize owed l c k = o at *
                have e0 := hb8q.cell HD0.out
                have e1 := hb8q.cell HD1.out
                obtain ⟨s0, s1, s2, s3⟩ := HK.out.grow hb8q
                go_wp2_with fail
                refine wp_region_A (by as_aux_lemma => kernel_rfl) ?_
                obtain ⟨z, hz⟩ : ∃ z : World, z = { wr with drawn := wr.drawn + 1 } := ⟨_, rfl⟩
                rw [← hz]
                have gz : G wr z := by rw [hz]; exact (G.refl _).drew
                clear hz
                have HS : LBox z w.heap.size l A C cA cC ∧ z.cell? ⟨b, off + i * 2, none⟩ = some (.int .i64 c.r) ∧ z.cell? ⟨b, off + i * 2 + 1, none⟩ = some (.slice B c.bs.length cB) := ⟨HK.out.grow (hb8q.trans gz), gz.cell e0, gz.cell e1⟩
                clear s0 s1 s2 s3 e0 e1
                refine wpAny_fork (fun w' => LBox w' w.heap.size l A C cA cC ∧ w'.cell? ⟨b, off + i * 2, none⟩ = some (.int .i64 c.r) ∧ w'.cell? ⟨b, off + i * 2 + 1, none⟩ = some (.slice B c.bs.length cB)) 6 ?_
                refine wpAnyU_takes' (i := 0) rfl (by as_aux_lemma => kernel_rfl) (fun _ _ _ _ h => h) HS ?_
                apply Exists.intro
                apply And.intro
                · refine Or.inl (And.intro (by rfl) ?_)
                  rintro w ⟨⟨s0, s1, s2, s3⟩, s4, s5⟩
                  go_simp
                  try rfl
                simp only [Act.put, List.setIfInBounds_toArray, List.set_cons_succ, List.set_cons_zero]
                refine wpAnyU_takes' (i := 1) rfl (by as_aux_lemma => kernel_rfl) (fun _ _ _ _ h => h) HS ?_
                apply Exists.intro
                apply And.intro
                · refine Or.inl (And.intro (by rfl) ?_)
                  rintro w ⟨⟨s0, s1, s2, s3⟩, s4, s5⟩
                  go_simp
                  try rfl
                simp only [Act.put, List.setIfInBounds_toArray, List.set_cons_succ, List.set_cons_zero]
                refine wpAnyU_takes' (i := 2) rfl (by as_aux_lemma => kernel_rfl) (fun _ _ _ _ h => h) HS ?_
                apply Exists.intro
                apply And.intro
                · refine Or.inl (And.intro (by rfl) ?_)
                  rintro w ⟨⟨s0, s1, s2, s3⟩, s4, s5⟩
                  go_simp
                  try rfl
                simp only [Act.put, List.setIfInBounds_toArray, List.set_cons_succ, List.set_cons_zero]
                refine wpAnyU_takes' (i := 3) rfl (by as_aux_lemma => kernel_rfl) (fun _ _ _ _ h => h) HS ?_
                apply Exists.intro
                apply And.intro
                · refine Or.inl (And.intro (by rfl) ?_)
                  rintro w ⟨⟨s0, s1, s2, s3⟩, s4, s5⟩
                  go_simp
                  try rfl
                simp only [Act.put, List.setIfInBounds_toArray, List.set_cons_succ, List.set_cons_zero]
                refine wpAnyU_takes' (i := 4) rfl (by as_aux_lemma => kernel_rfl) (fun _ _ _ _ h => h) HS ?_
                apply Exists.intro
                apply And.intro
                · refine Or.inl (And.intro (by rfl) ?_)
                  rintro w ⟨⟨s0, s1, s2, s3⟩, s4, s5⟩
                  go_simp
                  try rfl
                simp only [Act.put, List.setIfInBounds_toArray, List.set_cons_succ, List.set_cons_zero]
                refine wpAnyU_takes' (i := 5) rfl (by as_aux_lemma => kernel_rfl) (fun _ _ _ _ h => h) HS ?_
                apply Exists.intro
                apply And.intro
                · refine Or.inl (And.intro (by rfl) ?_)
                  rintro w ⟨⟨s0, s1, s2, s3⟩, s4, s5⟩
                  go_simp
                  try rfl
                simp only [Act.put, List.setIfInBounds_toArray, List.set_cons_succ, List.set_cons_zero]
                refine wpAnyT_close (by as_aux_lemma => kernel_rfl) ?_
                refine wpAny_part (k := 6) (n := 3) (f := 0) rfl rfl (by as_aux_lemma => kernel_rfl) ?_
                simp only [List.drop_succ_cons, List.drop_zero, List.take_succ_cons, List.take_zero]
                go_wp2_with fail
                refine (hcall z (hb8q.trans gz)).mono ?_
                rintro e z1 ⟨rfl, hz1⟩
                have gg := hbq.trans (gz.trans hz1)
                have e1 := (gz.trans hz1)
                have f1 := (hbq.trans e1).cell HF1.out
                have f2 := (hbq.trans e1).cell HF2.out
                clear hcall HS gz hz1 e1 hb8q
                by_cases ho : 0 < o
                · have hpo : pos o = o := by unfold pos; rw [if_neg (by omega)]
                  rw [hpo] at HLE f1
                  clear hpo
                  -- the due is o
                  cases hfl : (bs || (List.range k).any (lessAt l n c)) with
                  | true =>
                    have HNX := Lib.hid (show (bs || (List.range (k + 1)).any (lessAt l n c)) = true by rw [anyR_succ, ← Bool.or_assoc, hfl, Bool.true_or])
                    clear hfl
                    go_wp2_with fail
                    refine wpAny_done (by as_aux_lemma => kernel_rfl) ?_
                    go_wp2_with fail
                    go_roundw
                    case rel => exact ⟨k + 1, by omega, by go_num, by rw [HNX.out], gg⟩
                    case measure => simp [intOf] <;> omega
                  | false =>
                    have HNX := Lib.hid (show (bs || (List.range (k + 1)).any (lessAt l n c)) = decide (tk < o) by rw [anyR_succ, ← Bool.or_assoc, hfl, Bool.false_or]; exact HLE.out)
                    clear hfl
                    go_wp2_with fail
                    refine wpAny_done (by as_aux_lemma => kernel_rfl) ?_
                    go_wp2_with fail
                    go_roundw
                    case rel => exact ⟨k + 1, by omega, by go_num, by rw [HNX.out], gg⟩
                    case measure => simp [intOf] <;> omega
                · have hpo : pos o = 0 := by unfold pos; split <;> omega
                  rw [hpo] at HLE f1
                  clear hpo
                  -- the due is (0 : Int)
                  cases hfl : (bs || (List.range k).any (lessAt l n c)) with
                  | true =>
                    have HNX := Lib.hid (show (bs || (List.range (k + 1)).any (lessAt l n c)) = true by rw [anyR_succ, ← Bool.or_assoc, hfl, Bool.true_or])
                    clear hfl
                    go_wp2_with fail
                    refine wpAny_done (by as_aux_lemma => kernel_rfl) ?_
                    go_wp2_with fail
                    go_roundw
                    case rel => exact ⟨k + 1, by omega, by go_num, by rw [HNX.out], gg⟩
                    case measure => simp [intOf] <;> omega
                  | false =>
                    have HNX := Lib.hid (show (bs || (List.range (k + 1)).any (lessAt l n c)) = decide (tk < (0 : Int)) by rw [anyR_succ, ← Bool.or_assoc, hfl, Bool.false_or]; exact HLE.out)
                    clear hfl
                    go_wp2_with fail
                    refine wpAny_done (by as_aux_lemma => kernel_rfl) ?_
                    go_wp2_with fail
                    go_roundw
                    case rel => exact ⟨k + 1, by omega, by go_num, by rw [HNX.out], gg⟩
                    case measure => simp [intOf] <;> omega
              · obtain rfl : k = l.gs.length := by omega
                have HNX := Lib.hid (show (bs || (List.range l.gs.length).any (lessAt l n c)) = (decide (n = 0) || (ts.take (i + 1)).any (lessIn l n)) by rw [HTK.out, HLI.out])
                clear hlt hk
                go_wp2_with fail
                go_roundw
                case rel => exact ⟨i + 1, by omega, by go_num, by rw [← HNX.out], hb8q⟩
                case measure => simp [intOf] <;> omega
          · obtain rfl : i = ts.length := by omega
            rw [List.take_length, HFL.out]
            have hw1 := HW1.out
            have htm := HTM.out
            have hw2 := HW2.out
            have g9 := g8.trans hbr
            go_wp2_with fail
            refine (awake_c wr).mono ?_
            rintro e w99 ⟨rfl, hb99⟩
            go_wp2_with fail
            go_ret
            exact ⟨rfl, (g9).trans hb99⟩
  · have h11 : askErr l true = 11 := by
      have h := askErr_any HV.out
      split at h
      · exact absurd h he
      · exact h
    have hnil : refTruths l = [] := by
      rw [refTruths_nil HV.out]
      refine Classical.byContradiction fun hne => he (askErr_of HV.out hne)
    rw [h11, hnil]
    clear he h11 hnil HT
    go_wp2_with fail
    refine (awake_c w8).mono ?_
    rintro e w99 ⟨rfl, hb99⟩
    go_wp2_with fail
    go_ret
    exact ⟨rfl, (g8).trans hb99⟩
end Go.Proofs.Ytogdhkecpjndlaa.C
