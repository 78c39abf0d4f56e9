/- The law GrowerEnds, walked. -/
import Derived.Test.YtogdhkecpjndlaaW13
import Derived.Test.YtogdhkecpjndlaaW8
set_option linter.unusedSimpArgs false
set_option linter.unusedVariables false
namespace Go.Proofs.Ytogdhkecpjndlaa.C
open Go.RowKit
set_option maxRecDepth 100000

theorem tmod_nat {t n g : Nat} (h : t % n = g) : ((t : Int)).tmod (n : Int) = (g : Int) := by
  rw [Int.tmod_eq_emod_of_nonneg (by omega), ← h]
  rfl

set_option maxHeartbeats 16000000 in
theorem GrowerEnds_c {l : Led} {A C : Option Addr} {cA cC : Nat} {a : Int} {w : World} (hL : LedR w l A C) (ha : (Lit.int .u8 a).wf = true) :
    Calls Try.prog 16 #[ledV l A C cA cC, .int .u8 a] w fun e w' => e = .returned (.bool true) ∧ G w w' := by
  have HL := Lib.hid hL
  have ha2 : 0 ≤ a ∧ a ≤ 255 := by simpa [Lit.wf, IntKind.min, IntKind.max, IntKind.signed, IntKind.bits] using ha
  clear hL ha
  obtain ⟨t, rfl⟩ : ∃ t : Nat, a = t := ⟨a.toNat, by omega⟩
  have ht : t < 256 := by omega
  clear ha2
  cases hr : readyB l
  · go_enter Try.func16, Try.ntmps16
    go_wp2_with fail
    have hB : G w (w.alloc (.cells #[.int .i64 l.lo, .int .i64 l.hi, .slice A l.gs.length cA, .slice C l.cs.length cC] 27)) := (G.refl _).alloc _
    generalize w.alloc _ = W at *
    refine (ready_c (HL.out.grow hB)).mono ?_
    rw [hr]
    rintro e w1 ⟨rfl, hb1⟩
    clear hr
    go_wp2_with fail
    refine (awake_c w1).mono ?_
    rintro e w2 ⟨rfl, hb2⟩
    go_wp2_with fail
    go_ret
    exact ⟨rfl, hB.trans (hb1.trans hb2)⟩
  obtain ⟨hg, hc, hf, hV⟩ := readyB_iff hr
  have HV := Lib.hid hV
  have HF := Lib.hid hf
  have hng := hV.ng
  have hnc := hV.nc
  clear hf hV
  go_enter Try.func16, Try.ntmps16
  go_wp2_with fail
  have hB : G w (w.alloc (.cells #[.int .i64 l.lo, .int .i64 l.hi, .slice A l.gs.length cA, .slice C l.cs.length cC] 27)) := (G.refl _).alloc _
  have k0 := LBox.one (w := w) (l := l) (A := A) (C := C) (cA := cA) (cC := cC)
  generalize w.alloc _ = W0 at *
  refine (ready_c (HL.out.grow hB)).mono ?_
  rw [hr]
  rintro e W ⟨rfl, hb1⟩
  have HK := Lib.hid (k0.grow hb1)
  replace hB := hB.trans hb1
  clear hr hb1 k0
  obtain ⟨s0, s1, s2, s3⟩ := HK.out
  by_cases hn0 : l.gs.length = 0
  · have hz : (((l.gs.length : Nat) : Int) == 0) = true := by simp [hn0]
    clear hn0
    go_wp2_with fail
    refine (awake_c W).mono ?_
    rintro e w99 ⟨rfl, hb99⟩
    go_wp2_with fail
    go_ret
    exact ⟨rfl, (hB).trans hb99⟩
  have hz : (((l.gs.length : Nat) : Int) == 0) = false := beq_eq_false_iff_ne.2 (by omega)
  have hnz : ¬ ((l.gs.length : Int) = 0) := by omega
  obtain ⟨g, hgg⟩ : ∃ g : Nat, t % l.gs.length = g := ⟨_, rfl⟩
  have htm := tmod_nat hgg
  have hgl : g < l.gs.length := by rw [← hgg]; exact Nat.mod_lt _ (by omega)
  have hw1 : IntKind.i64.wrap (t : Int) = t := IntWalk.i64_in _ (by omega)
  have hg4 : g < 4 := by omega
  have hw2 : IntKind.i64.wrap (g : Int) = g := IntWalk.i64_in _ (by omega)
  clear hgg
  -- Ledger of l A C cA cC (its LedR HL.out.grow hB at the world W), to w2 by hb2; lengths by omega; HX: the new LedR
  go_wp2_with fail
  refine (Ledger_c l A C cA cC W (HL.out.grow hB) (by omega) (by omega)).mono ?_
  rintro e w2 ⟨⟨AX, CX, cAX, cCX, rfl, hLX, hcA, hcC⟩, hb2⟩
  have HX := Lib.hid hLX
  clear hLX
  go_wp2_with fail
  clear htm hw1 hw2 hz
  refine (Bounds_c l AX CX cAX cCX w2 HX.out hg hc).mono ?_
  rintro e w3 ⟨⟨v3, rfl, ho3⟩, hb3⟩
  obtain ⟨A3, c3, rfl, -, hr3⟩ := Own2.row ho3
  have HR3 := Lib.hid hr3
  have hb23 := hb2.trans hb3
  -- box kept over hb23; growth hB renewed to g3
  replace HK := Lib.hid (HK.out.grow hb23)
  have g3 := (hB).trans hb23
  clear s0 s1 s2 s3
  obtain ⟨s0, s1, s2, s3⟩ := HK.out
  clear HX hcA hcC hb2 hb3 hb23 hB ho3 hr3
  go_wp2_with fail
  -- Ledger of l A C cA cC (its LedR HL.out.grow g3 at the world w3), to w4 by hb4; lengths by omega; HX: the new LedR
  go_wp2_with fail
  refine (Ledger_c l A C cA cC w3 (HL.out.grow g3) (by omega) (by omega)).mono ?_
  rintro e w4 ⟨⟨AX, CX, cAX, cCX, rfl, hLX, hcA, hcC⟩, hb4⟩
  have HX := Lib.hid hLX
  clear hLX
  go_wp2_with fail
  refine (Rate_c l AX CX cAX cCX w4 HX.out hg hc).mono ?_
  rintro e w5 ⟨rfl, hb5⟩
  have hb45 := hb4.trans hb5
  replace HR3 := Lib.hid (HR3.out.grow hb45)
  -- box kept over hb45; growth g3 renewed to g5
  replace HK := Lib.hid (HK.out.grow hb45)
  have g5 := (g3).trans hb45
  clear s0 s1 s2 s3
  obtain ⟨s0, s1, s2, s3⟩ := HK.out
  clear HX hcA hcC hb4 hb5 hb45 g3
  go_upto_region 6 with fail
  have n5 : Blk (w5.alloc (.cells #[.int .i64 (rateL l).1, .int .i64 (rateL l).2] 34)) w5.heap.size 34 #[.int .i64 (rateL l).1, .int .i64 (rateL l).2] := Blk.new _ _ _
  have hg5 := (G.refl w5).alloc (.cells #[.int .i64 (rateL l).1, .int .i64 (rateL l).2] 34)
  replace HR3 := Lib.hid (HR3.out.grow hg5)
  generalize hm5 : w5.heap.size = m5 at *
  generalize hv6 : w5.alloc _ = v6 at *
  clear hv6 hm5
  -- box kept over hg5; growth g5 renewed to g6
  replace HK := Lib.hid (HK.out.grow hg5)
  have g6 := (g5).trans hg5
  clear s0 s1 s2 s3
  obtain ⟨s0, s1, s2, s3⟩ := HK.out
  clear hg5 g5
  go_wp2_with fail
  refine (Truths_c (cA := cA) (cC := cC) HV.out (HL.out.grow g6)).mono ?_
  rintro e w8 ⟨⟨T, cT, rfl, hT⟩, hb6⟩
  have HT := Lib.hid hT
  replace HR3 := Lib.hid (HR3.out.grow hb6)
  have HN5 := Lib.hid (n5.grow hb6)
  -- box kept over hb6; growth g6 renewed to g8
  replace HK := Lib.hid (HK.out.grow hb6)
  have g8 := (g6).trans hb6
  clear s0 s1 s2 s3
  obtain ⟨s0, s1, s2, s3⟩ := HK.out
  clear hb6 g6 hT n5
  by_cases he : askErr l true = 0
  · obtain ⟨hV, hp, hne, htn, hcok, hat⟩ := truth_facts he
    have hlT := refTruths_len hV
    have HEA := Lib.hid (ends_all he g)
    have hlen := boundL_length he
    have HBG := Lib.hid (boundL_get he (k := g) (by rw [hlen]; exact hgl))
    have hl0 : ((((refTruths l).length : Nat) : Int) == 0) = false := by
      cases hh : refTruths l with
      | nil => exact absurd hh htn
      | cons y ys => simp; omega
    rw [he, hlen]
    have HCK0 := Lib.hid hcok
    clear hV hp hne htn hat he hcok
    obtain ⟨b3, o3, rfl, d0, d1⟩ := HR3.out.at (j := g) (by rw [hlen]; exact hgl)
    rw [HBG.out] at d0 d1
    have HG0 := Lib.hid d0
    have HG1 := Lib.hid d1
    have HF0 := Lib.hid (HN5.out.cell 0 rfl)
    have HF1 := Lib.hid (HN5.out.cell 1 rfl)
    clear d0 d1 HBG HN5
    generalize hts : refTruths l = ts at *
    generalize hdb : dueB l g = db at *
    generalize hra : rateL l = ra at *
    clear hts hdb hra HR3
    have hnn : ((l.gs.length : Int) != l.gs.length) = false := by simp
    go_wp2_with fail
    clear hnn hl0 s0 s1 s2 s3
    go_loopw [11, 12] (fun v11 v12 wr => ∃ (i : Nat), i ≤ ts.length ∧ v12 = .int .i64 i ∧ v11 = .int .i64 (endsN (fun c => owed l c g) db ra (ts.take i)) ∧ G w8 wr) (fun _ v12 _ => ts.length - (intOf v12).toNat)
    case atStart => exact ⟨0, by omega, rfl, by simp [endsN, enc4], G.refl _⟩
    case round =>
      obtain ⟨i, hi, rfl, rfl, hbr⟩ := hrel
      obtain ⟨s0, s1, s2, s3⟩ := HK.out.grow hbr
      by_cases hlti : i < ts.length
      · obtain ⟨b, off, B, cB, rfl, d0, d1, dB⟩ := HT.out.at hlti
        have HD0 := Lib.hid d0
        have HRB := Lib.hid dB
        have HCK := Lib.hid (HCK0.out _ (List.getElem_mem hlti))
        have hen : endsN (fun c => owed l c g) db ra (ts.take (i + 1)) = enc4 ((ts.take i).any (fun c => owed l c g == db.1) || (owed l ts[i] g == db.1)) ((ts.take i).any (fun c => owed l c g == db.2) || (owed l ts[i] g == db.2)) ((ts.take i).any (fun c => c.r == ra.1) || (ts[i].r == ra.1)) ((ts.take i).any (fun c => c.r == ra.2) || (ts[i].r == ra.2)) := by
          unfold endsN
          rw [anyC_take hlti, anyC_take hlti, anyC_take hlti, anyC_take hlti]
        have hes : endsN (fun c => owed l c g) db ra (ts.take i) = enc4 ((ts.take i).any (fun c => owed l c g == db.1)) ((ts.take i).any (fun c => owed l c g == db.2)) ((ts.take i).any (fun c => c.r == ra.1)) ((ts.take i).any (fun c => c.r == ra.2)) := rfl
        have e0 := hbr.cell d0
        have e1 := hbr.cell d1
        generalize ts[i] = c at *
        rw [hes]
        have HEN := Lib.hid hen
        clear hen hes d0 d1 dB
        generalize (ts.take i).any (fun c => owed l c g == db.1) = b1 at *
        generalize (ts.take i).any (fun c => owed l c g == db.2) = b2 at *
        generalize (ts.take i).any (fun c => c.r == ra.1) = b4 at *
        generalize (ts.take i).any (fun c => c.r == ra.2) = b5 at *
        have hcall := fun (z : World) (h : G w8 z) => Owed_c (C := C) (cA := cA) (cC := cC) (cB := cB) (w := z) HV.out HCK.out (HL.out.g.grow (g8.trans h)) (HRB.out.grow h) hgl
        generalize owed l c g = o at *
        go_wp2_with fail
        refine wp_region_A (by as_aux_lemma => kernel_rfl) ?_
        obtain ⟨z, hz⟩ : ∃ z : World, z = { wr with drawn := wr.drawn + 1 } := ⟨_, rfl⟩
        rw [← hz]
        have gz : G wr z := by rw [hz]; exact (G.refl _).drew
        clear hz
        have HS : LBox z w.heap.size l A C cA cC ∧ z.cell? ⟨b, off + i * 2, none⟩ = some (.int .i64 c.r) ∧ z.cell? ⟨b, off + i * 2 + 1, none⟩ = some (.slice B c.bs.length cB) := ⟨HK.out.grow (hbr.trans gz), gz.cell e0, gz.cell e1⟩
        clear s0 s1 s2 s3 e0 e1
        refine wpAny_fork (fun w' => LBox w' w.heap.size l A C cA cC ∧ w'.cell? ⟨b, off + i * 2, none⟩ = some (.int .i64 c.r) ∧ w'.cell? ⟨b, off + i * 2 + 1, none⟩ = some (.slice B c.bs.length cB)) 6 ?_
        refine wpAnyU_takes' (i := 0) rfl (by as_aux_lemma => kernel_rfl) (fun _ _ _ _ h => h) HS ?_
        apply Exists.intro
        apply And.intro
        · refine Or.inl (And.intro (by rfl) ?_)
          rintro w ⟨⟨s0, s1, s2, s3⟩, s4, s5⟩
          go_simp
          try rfl
        simp only [Act.put, List.setIfInBounds_toArray, List.set_cons_succ, List.set_cons_zero]
        refine wpAnyU_takes' (i := 1) rfl (by as_aux_lemma => kernel_rfl) (fun _ _ _ _ h => h) HS ?_
        apply Exists.intro
        apply And.intro
        · refine Or.inl (And.intro (by rfl) ?_)
          rintro w ⟨⟨s0, s1, s2, s3⟩, s4, s5⟩
          go_simp
          try rfl
        simp only [Act.put, List.setIfInBounds_toArray, List.set_cons_succ, List.set_cons_zero]
        refine wpAnyU_takes' (i := 2) rfl (by as_aux_lemma => kernel_rfl) (fun _ _ _ _ h => h) HS ?_
        apply Exists.intro
        apply And.intro
        · refine Or.inl (And.intro (by rfl) ?_)
          rintro w ⟨⟨s0, s1, s2, s3⟩, s4, s5⟩
          go_simp
          try rfl
        simp only [Act.put, List.setIfInBounds_toArray, List.set_cons_succ, List.set_cons_zero]
        refine wpAnyU_takes' (i := 3) rfl (by as_aux_lemma => kernel_rfl) (fun _ _ _ _ h => h) HS ?_
        apply Exists.intro
        apply And.intro
        · refine Or.inl (And.intro (by rfl) ?_)
          rintro w ⟨⟨s0, s1, s2, s3⟩, s4, s5⟩
          go_simp
          try rfl
        simp only [Act.put, List.setIfInBounds_toArray, List.set_cons_succ, List.set_cons_zero]
        refine wpAnyU_takes' (i := 4) rfl (by as_aux_lemma => kernel_rfl) (fun _ _ _ _ h => h) HS ?_
        apply Exists.intro
        apply And.intro
        · refine Or.inl (And.intro (by rfl) ?_)
          rintro w ⟨⟨s0, s1, s2, s3⟩, s4, s5⟩
          go_simp
          try rfl
        simp only [Act.put, List.setIfInBounds_toArray, List.set_cons_succ, List.set_cons_zero]
        refine wpAnyU_takes' (i := 5) rfl (by as_aux_lemma => kernel_rfl) (fun _ _ _ _ h => h) HS ?_
        apply Exists.intro
        apply And.intro
        · refine Or.inl (And.intro (by rfl) ?_)
          rintro w ⟨⟨s0, s1, s2, s3⟩, s4, s5⟩
          go_simp
          try rfl
        simp only [Act.put, List.setIfInBounds_toArray, List.set_cons_succ, List.set_cons_zero]
        refine wpAnyT_close (by as_aux_lemma => kernel_rfl) ?_
        refine wpAny_part (k := 6) (n := 2) (f := 0) rfl rfl (by as_aux_lemma => kernel_rfl) ?_
        simp only [List.drop_succ_cons, List.drop_zero, List.take_succ_cons, List.take_zero]
        go_wp2_with fail
        refine (hcall z (hbr.trans gz)).mono ?_
        rintro e x3 ⟨rfl, hz1⟩
        have k3 := hbr.trans (gz.trans hz1)
        clear hcall HS gz hz1
        go_wp2_with fail
        refine wpAny_done (by as_aux_lemma => kernel_rfl) ?_
        have ho1 := fun a b c d => (enc_or a b c d).1
        have ho2 := fun a b c d => (enc_or a b c d).2.1
        have ho3 := fun a b c d => (enc_or a b c d).2.2.1
        have ho4 := fun a b c d => (enc_or a b c d).2.2.2
        have q0 := k3.cell HG0.out
        have q1 := k3.cell HG1.out
        cases hx1 : (o == db.1)
        · cases hx2 : (o == db.2)
          · have e0 := (k3).cell HD0.out
            have f0 := (k3).cell HF0.out
            go_wp2_with fail
            go_quiet (fail)
            have k4 := (k3).drewN nq
            clear e0 f0
            generalize World.drewN _ nq = x4 at *
            cases hx3 : (c.r == ra.1)
            · -- behind the third if: world x4 grown by k4
              have e0 := (k4).cell HD0.out
              have f1 := (k4).cell HF1.out
              go_wp2_with fail
              go_quiet (fail)
              have k5 := (k4).drewN nq
              clear e0 f1
              generalize World.drewN _ nq = x5 at *
              cases hx4 : (c.r == ra.2)
              · -- the round's end: the four flags
                go_wp2_with fail
                go_roundw
                case rel => exact ⟨i + 1, by omega, by go_num, by rw [HEN.out, hx1, hx2, hx3, hx4]; simp, k5⟩
                case measure => simp [intOf] <;> omega
              · -- the round's end: the four flags
                go_wp2_with fail
                go_roundw
                case rel => exact ⟨i + 1, by omega, by go_num, by rw [HEN.out, hx1, hx2, hx3, hx4]; simp, k5⟩
                case measure => simp [intOf] <;> omega
            · -- behind the third if: world x4 grown by k4
              have e0 := (k4).cell HD0.out
              have f1 := (k4).cell HF1.out
              go_wp2_with fail
              go_quiet (fail)
              have k5 := (k4).drewN nq
              clear e0 f1
              generalize World.drewN _ nq = x5 at *
              cases hx4 : (c.r == ra.2)
              · -- the round's end: the four flags
                go_wp2_with fail
                go_roundw
                case rel => exact ⟨i + 1, by omega, by go_num, by rw [HEN.out, hx1, hx2, hx3, hx4]; simp, k5⟩
                case measure => simp [intOf] <;> omega
              · -- the round's end: the four flags
                go_wp2_with fail
                go_roundw
                case rel => exact ⟨i + 1, by omega, by go_num, by rw [HEN.out, hx1, hx2, hx3, hx4]; simp, k5⟩
                case measure => simp [intOf] <;> omega
          · have e0 := (k3).cell HD0.out
            have f0 := (k3).cell HF0.out
            go_wp2_with fail
            go_quiet (fail)
            have k4 := (k3).drewN nq
            clear e0 f0
            generalize World.drewN _ nq = x4 at *
            cases hx3 : (c.r == ra.1)
            · -- behind the third if: world x4 grown by k4
              have e0 := (k4).cell HD0.out
              have f1 := (k4).cell HF1.out
              go_wp2_with fail
              go_quiet (fail)
              have k5 := (k4).drewN nq
              clear e0 f1
              generalize World.drewN _ nq = x5 at *
              cases hx4 : (c.r == ra.2)
              · -- the round's end: the four flags
                go_wp2_with fail
                go_roundw
                case rel => exact ⟨i + 1, by omega, by go_num, by rw [HEN.out, hx1, hx2, hx3, hx4]; simp, k5⟩
                case measure => simp [intOf] <;> omega
              · -- the round's end: the four flags
                go_wp2_with fail
                go_roundw
                case rel => exact ⟨i + 1, by omega, by go_num, by rw [HEN.out, hx1, hx2, hx3, hx4]; simp, k5⟩
                case measure => simp [intOf] <;> omega
            · -- behind the third if: world x4 grown by k4
              have e0 := (k4).cell HD0.out
              have f1 := (k4).cell HF1.out
              go_wp2_with fail
              go_quiet (fail)
              have k5 := (k4).drewN nq
              clear e0 f1
              generalize World.drewN _ nq = x5 at *
              cases hx4 : (c.r == ra.2)
              · -- the round's end: the four flags
                go_wp2_with fail
                go_roundw
                case rel => exact ⟨i + 1, by omega, by go_num, by rw [HEN.out, hx1, hx2, hx3, hx4]; simp, k5⟩
                case measure => simp [intOf] <;> omega
              · -- the round's end: the four flags
                go_wp2_with fail
                go_roundw
                case rel => exact ⟨i + 1, by omega, by go_num, by rw [HEN.out, hx1, hx2, hx3, hx4]; simp, k5⟩
                case measure => simp [intOf] <;> omega
        · cases hx2 : (o == db.2)
          · have e0 := (k3).cell HD0.out
            have f0 := (k3).cell HF0.out
            go_wp2_with fail
            go_quiet (fail)
            have k4 := (k3).drewN nq
            clear e0 f0
            generalize World.drewN _ nq = x4 at *
            cases hx3 : (c.r == ra.1)
            · -- behind the third if: world x4 grown by k4
              have e0 := (k4).cell HD0.out
              have f1 := (k4).cell HF1.out
              go_wp2_with fail
              go_quiet (fail)
              have k5 := (k4).drewN nq
              clear e0 f1
              generalize World.drewN _ nq = x5 at *
              cases hx4 : (c.r == ra.2)
              · -- the round's end: the four flags
                go_wp2_with fail
                go_roundw
                case rel => exact ⟨i + 1, by omega, by go_num, by rw [HEN.out, hx1, hx2, hx3, hx4]; simp, k5⟩
                case measure => simp [intOf] <;> omega
              · -- the round's end: the four flags
                go_wp2_with fail
                go_roundw
                case rel => exact ⟨i + 1, by omega, by go_num, by rw [HEN.out, hx1, hx2, hx3, hx4]; simp, k5⟩
                case measure => simp [intOf] <;> omega
            · -- behind the third if: world x4 grown by k4
              have e0 := (k4).cell HD0.out
              have f1 := (k4).cell HF1.out
              go_wp2_with fail
              go_quiet (fail)
              have k5 := (k4).drewN nq
              clear e0 f1
              generalize World.drewN _ nq = x5 at *
              cases hx4 : (c.r == ra.2)
              · -- the round's end: the four flags
                go_wp2_with fail
                go_roundw
                case rel => exact ⟨i + 1, by omega, by go_num, by rw [HEN.out, hx1, hx2, hx3, hx4]; simp, k5⟩
                case measure => simp [intOf] <;> omega
              · -- the round's end: the four flags
                go_wp2_with fail
                go_roundw
                case rel => exact ⟨i + 1, by omega, by go_num, by rw [HEN.out, hx1, hx2, hx3, hx4]; simp, k5⟩
                case measure => simp [intOf] <;> omega
          · have e0 := (k3).cell HD0.out
            have f0 := (k3).cell HF0.out
            go_wp2_with fail
            go_quiet (fail)
            have k4 := (k3).drewN nq
            clear e0 f0
            generalize World.drewN _ nq = x4 at *
            cases hx3 : (c.r == ra.1)
            · -- behind the third if: world x4 grown by k4
              have e0 := (k4).cell HD0.out
              have f1 := (k4).cell HF1.out
              go_wp2_with fail
              go_quiet (fail)
              have k5 := (k4).drewN nq
              clear e0 f1
              generalize World.drewN _ nq = x5 at *
              cases hx4 : (c.r == ra.2)
              · -- the round's end: the four flags
                go_wp2_with fail
                go_roundw
                case rel => exact ⟨i + 1, by omega, by go_num, by rw [HEN.out, hx1, hx2, hx3, hx4]; simp, k5⟩
                case measure => simp [intOf] <;> omega
              · -- the round's end: the four flags
                go_wp2_with fail
                go_roundw
                case rel => exact ⟨i + 1, by omega, by go_num, by rw [HEN.out, hx1, hx2, hx3, hx4]; simp, k5⟩
                case measure => simp [intOf] <;> omega
            · -- behind the third if: world x4 grown by k4
              have e0 := (k4).cell HD0.out
              have f1 := (k4).cell HF1.out
              go_wp2_with fail
              go_quiet (fail)
              have k5 := (k4).drewN nq
              clear e0 f1
              generalize World.drewN _ nq = x5 at *
              cases hx4 : (c.r == ra.2)
              · -- the round's end: the four flags
                go_wp2_with fail
                go_roundw
                case rel => exact ⟨i + 1, by omega, by go_num, by rw [HEN.out, hx1, hx2, hx3, hx4]; simp, k5⟩
                case measure => simp [intOf] <;> omega
              · -- the round's end: the four flags
                go_wp2_with fail
                go_roundw
                case rel => exact ⟨i + 1, by omega, by go_num, by rw [HEN.out, hx1, hx2, hx3, hx4]; simp, k5⟩
                case measure => simp [intOf] <;> omega
      · obtain rfl : i = ts.length := by omega
        rw [List.take_length, HEA.out]
        have g9 := g8.trans hbr
        go_wp2_with fail
        refine (awake_c wr).mono ?_
        rintro e w99 ⟨rfl, hb99⟩
        go_wp2_with fail
        go_ret
        exact ⟨rfl, (g9).trans hb99⟩
  · have h11 : askErr l true = 11 := by
      have h := askErr_any HV.out
      split at h
      · exact absurd h he
      · exact h
    have hnil : refTruths l = [] := by
      rw [refTruths_nil HV.out]
      refine Classical.byContradiction fun hne => he (askErr_of HV.out hne)
    rw [h11, hnil]
    clear he h11 hnil HT
    go_wp2_with fail
    refine (awake_c w8).mono ?_
    rintro e w99 ⟨rfl, hb99⟩
    go_wp2_with fail
    go_ret
    exact ⟨rfl, (g8).trans hb99⟩
end Go.Proofs.Ytogdhkecpjndlaa.C
