/- The law GrowerTruth, walked. -/
import Derived.Test.YtogdhkecpjndlaaU4
import Derived.Test.YtogdhkecpjndlaaF4
import Derived.Test.YtogdhkecpjndlaaW4
import Derived.Test.YtogdhkecpjndlaaW8
import Derived.Test.YtogdhkecpjndlaaW10
import Derived.Test.YtogdhkecpjndlaaW13
set_option linter.unusedSimpArgs false
set_option linter.unusedVariables false
namespace Go.Proofs.Ytogdhkecpjndlaa.C
open Go.RowKit
set_option maxRecDepth 100000


set_option maxHeartbeats 16000000 in
theorem GrowerTruth_c {l : Led} {A C D : Option Addr} {cA cC cD : Nat} {a s : Int} {ws : List Int} {w : World} (hL : LedR w l A C) (ha : (Lit.int .u16 a).wf = true) (hD : RowW w D ws) (hm : ws.length ≤ maxLen) (hU : ∀ x ∈ ws, 0 ≤ x ∧ x ≤ 65535) (hs : (Lit.int .u16 s).wf = true) :
    Calls Try.prog 9 #[ledV l A C cA cC, .int .u16 a, .slice D ws.length cD, .int .u16 s] w fun e w' => e = .returned (.bool true) ∧ G w w' := by
  have HL := Lib.hid hL
  have ha2 : 0 ≤ a ∧ a ≤ 65535 := by simpa [Lit.wf, IntKind.min, IntKind.max, IntKind.signed, IntKind.bits] using ha
  have hs2 : 0 ≤ s ∧ s ≤ 65535 := by simpa [Lit.wf, IntKind.min, IntKind.max, IntKind.signed, IntKind.bits] using hs
  have HD := Lib.hid hD
  have HLN := Lib.hid hm
  have HU := Lib.hid hU
  clear hL ha hs hD hm hU
  cases hr : readyB l
  · go_enter Try.func9, Try.ntmps9
    go_wp2_with fail
    have hB : G w (w.alloc (.cells #[.int .i64 l.lo, .int .i64 l.hi, .slice A l.gs.length cA, .slice C l.cs.length cC] 27)) := (G.refl _).alloc _
    generalize w.alloc _ = W at *
    refine (ready_c (HL.out.grow hB)).mono ?_
    rw [hr]
    rintro e w1 ⟨rfl, hb1⟩
    clear hr
    go_wp2_with fail
    refine (awake_c w1).mono ?_
    rintro e w2 ⟨rfl, hb2⟩
    go_wp2_with fail
    go_ret
    exact ⟨rfl, hB.trans (hb1.trans hb2)⟩
  obtain ⟨hg, hc, hf, hV⟩ := readyB_iff hr
  have HV := Lib.hid hV
  have HF := Lib.hid hf
  have hng := hV.ng
  have hnc := hV.nc
  clear hf hV
  go_enter Try.func9, Try.ntmps9
  go_wp2_with fail
  have hB : G w (w.alloc (.cells #[.int .i64 l.lo, .int .i64 l.hi, .slice A l.gs.length cA, .slice C l.cs.length cC] 27)) := (G.refl _).alloc _
  have k0 := LBox.one (w := w) (l := l) (A := A) (C := C) (cA := cA) (cC := cC)
  generalize w.alloc _ = W0 at *
  refine (ready_c (HL.out.grow hB)).mono ?_
  rw [hr]
  rintro e W ⟨rfl, hb1⟩
  have HK := Lib.hid (k0.grow hb1)
  replace hB := hB.trans hb1
  clear hr hb1 k0
  obtain ⟨s0, s1, s2, s3⟩ := HK.out
  go_wp2_with fail
  refine (Claimed_c (cA := cA) (cC := cC) (cD := cD) HV.out (HL.out.grow hB) (HD.out.grow hB) HLN.out HU.out ha2).mono ?_
  have hC := nth_ok HV.out (a := a) ha2.1
  generalize nthC l (a % manyL l) = c at *
  have hxv := claimed_valid HV.out (cntOk_of HV.out hC) ws
  have hxt := claimed_truth HV.out hC ws
  have hxg : (claimedL l c ws).gs.length = l.gs.length := rfl
  have hxc : (claimedL l c ws).cs.length ≤ 5 := hxv.nc
  rintro e w1 ⟨⟨B, cB, C1, c1, rfl, hLX, hRB⟩, hb1⟩
  generalize claimedL l c ws = x at *
  obtain ⟨ha0, hlv, hf7, hxC, hxK, hpr, hra, hrb, hdu⟩ := at_truth hxv hxt
  have HXV := Lib.hid hxv
  have HXT := Lib.hid hxt
  have HA0 := Lib.hid ha0
  have HLV := Lib.hid hlv
  have HF7 := Lib.hid hf7
  have HXC := Lib.hid hxC
  have HXK := Lib.hid hxK
  have HPR := Lib.hid hpr
  have HDU := Lib.hid hdu
  have hbl : c.bs.length ≤ 30 := by have := hxK.len; omega
  have HXG := Lib.hid hxg
  have hxg4 : x.gs.length ≤ 4 := by omega
  clear hxv hxt ha0 hlv hf7 hxC hxK hpr hdu hC hxg
  go_upto_region 4 with fail
  obtain ⟨W2, hW2⟩ : ∃ W2 : World, (w1.alloc (.cells (cells4 x A C1 cA c1) 27)).alloc (.cells (cells2c c B cB) 49) = W2 := ⟨_, rfl⟩
  obtain ⟨hb2, lb2, cb2⟩ := two_boxes hW2
  rw [hW2]
  have hb12 := hb1.trans hb2
  have HXX := Lib.hid (hLX.grow hb2)
  have HRB := Lib.hid (hRB.grow hb2)
  replace HK := Lib.hid (show LBox W2 w.heap.size l A C cA cC ∧ LBox W2 w1.heap.size x A C1 cA c1 ∧ CBox W2 (w1.heap.size + 1) c B cB from ⟨HK.out.grow hb12, lb2, cb2⟩)
  have g0 := hB.trans hb12
  generalize hbc : w1.heap.size + 1 = bc at *
  generalize hbx : w1.heap.size = bx at *
  clear hbc hbx hb1 hb2 hb12 lb2 cb2 hW2 hB s0 s1 s2 s3 hLX hRB
  obtain ⟨⟨s0, s1, s2, s3⟩, ⟨t0, t1, t2, t3⟩, r0, r1⟩ := HK.out
  have hw1 : IntKind.i64.wrap s = s := IntWalk.i64_in _ (by omega)
  obtain ⟨n, hn⟩ : ∃ n, s % 10000 = n := ⟨_, rfl⟩
  have htm : s.tmod 10000 = n := by rw [Int.tmod_eq_emod_of_nonneg hs2.1, hn]
  have hn2 : 0 ≤ n ∧ n ≤ 9999 := by omega
  have hw2 : IntKind.i64.wrap n = n := IntWalk.i64_in _ (by omega)
  clear hn
  have hin : inB n 0 9999 = true := inB_iff.2 hn2
  have HE2 := Lib.hid (show askErr x (inB n 0 9999) = 0 by rw [hin]; exact HA0.out)
  obtain ⟨he3, hs3⟩ := shareR_ok (n := n) (fault_of HXV.out) HXC.out hn2.1 hn2.2
  have HE3 := Lib.hid he3
  have HS3 := Lib.hid hs3
  have HE4 := Lib.hid (show cErr x c true = 0 by unfold cErr; rw [if_pos (fault_of HXV.out), HXC.out]; rfl)
  have HP4 := Lib.hid (show playL x c = dues x c by unfold playL; rw [if_pos HE4.out])
  clear hin he3 hs3
  go_upto_region 5 with fail
  clear hw1 htm hw2
  -- Ledger of x A C1 cA c1 (its LedR HXX.out at the world W2), to m0 by mb0; lengths by omega; HX: the new LedR
  go_wp2_with fail
  refine (Ledger_c x A C1 cA c1 W2 (HXX.out) (by omega) (by omega)).mono ?_
  rintro e m0 ⟨⟨AX, CX, cAX, cCX, rfl, hLX, hcA, hcC⟩, mb0⟩
  have HX := Lib.hid hLX
  clear hLX
  go_wp2_with fail
  refine (Bounds_c x AX CX cAX cCX m0 HX.out (by omega) (by omega)).mono ?_
  rw [HA0.out]
  rintro e w10 ⟨⟨v0, rfl, ho0⟩, hb0⟩
  obtain ⟨R0, q0, rfl, -, hr0⟩ := Own2.row ho0
  have HR0 := Lib.hid hr0
  clear ho0 hr0
  have kb0 := mb0.trans hb0
  -- the boxes kept over kb0; growth g0 renewed to g1
  replace HK := Lib.hid (show LBox _ _ _ _ _ _ _ ∧ LBox _ _ _ _ _ _ _ ∧ CBox _ _ _ _ _ from ⟨HK.out.1.grow (kb0), HK.out.2.1.grow (kb0), HK.out.2.2.grow (kb0)⟩)
  replace HXX := Lib.hid (HXX.out.grow (kb0))
  replace HRB := Lib.hid (HRB.out.grow (kb0))
  have g1 := (g0).trans (kb0)
  clear s0 s1 s2 s3 t0 t1 t2 t3 r0 r1
  obtain ⟨⟨s0, s1, s2, s3⟩, ⟨t0, t1, t2, t3⟩, r0, r1⟩ := HK.out
  clear HX hcA hcC mb0 hb0 g0
  -- Ledger of x A C1 cA c1 (its LedR HXX.out at the world w10), to m1 by mb1; lengths by omega; HX: the new LedR
  go_wp2_with fail
  refine (Ledger_c x A C1 cA c1 w10 (HXX.out) (by omega) (by omega)).mono ?_
  rintro e m1 ⟨⟨AX, CX, cAX, cCX, rfl, hLX, hcA, hcC⟩, mb1⟩
  have HX := Lib.hid hLX
  clear hLX
  go_wp2_with fail
  refine (Rate_c x AX CX cAX cCX m1 HX.out (by omega) (by omega)).mono ?_
  rw [HA0.out]
  rintro e y1 ⟨rfl, hy1⟩
  go_upto_region 7 with fail
  have n1 : Blk (y1.alloc (.cells #[.int .i64 (rateL x).1, .int .i64 (rateL x).2] 34)) y1.heap.size 34 #[.int .i64 (rateL x).1, .int .i64 (rateL x).2] := Blk.new _ _ _
  have hb1 := hy1.alloc (.cells #[.int .i64 (rateL x).1, .int .i64 (rateL x).2] 34)
  have HR1 := Lib.hid n1
  generalize hp1 : y1.heap.size = p1 at *
  generalize hw11 : y1.alloc _ = w11 at *
  clear hp1 hw11 n1 hy1
  have kb1 := mb1.trans hb1
  -- the boxes kept over kb1; growth g1 renewed to g2
  replace HK := Lib.hid (show LBox _ _ _ _ _ _ _ ∧ LBox _ _ _ _ _ _ _ ∧ CBox _ _ _ _ _ from ⟨HK.out.1.grow (kb1), HK.out.2.1.grow (kb1), HK.out.2.2.grow (kb1)⟩)
  replace HXX := Lib.hid (HXX.out.grow (kb1))
  replace HRB := Lib.hid (HRB.out.grow (kb1))
  have g2 := (g1).trans (kb1)
  clear s0 s1 s2 s3 t0 t1 t2 t3 r0 r1
  obtain ⟨⟨s0, s1, s2, s3⟩, ⟨t0, t1, t2, t3⟩, r0, r1⟩ := HK.out
  clear HX hcA hcC mb1 hb1 g1
  -- Ledger of x A C1 cA c1 (its LedR HXX.out at the world w11), to m2 by mb2; lengths by omega; HX: the new LedR
  go_wp2_with fail
  refine (Ledger_c x A C1 cA c1 w11 (HXX.out) (by omega) (by omega)).mono ?_
  rintro e m2 ⟨⟨AX, CX, cAX, cCX, rfl, hLX, hcA, hcC⟩, mb2⟩
  have HX := Lib.hid hLX
  clear hLX
  go_wp2_with fail
  refine (Clear_c x AX CX cAX cCX m2 HX.out (by omega) (by omega)).mono ?_
  rw [HA0.out]
  rintro e w12 ⟨⟨v2, rfl, ho2⟩, hb2⟩
  obtain ⟨R2, q2, rfl, -, hr2⟩ := ho2.row
  have HR2 := Lib.hid hr2
  clear ho2 hr2
  have kb2 := mb2.trans hb2
  -- the boxes kept over kb2; growth g2 renewed to g3
  replace HK := Lib.hid (show LBox _ _ _ _ _ _ _ ∧ LBox _ _ _ _ _ _ _ ∧ CBox _ _ _ _ _ from ⟨HK.out.1.grow (kb2), HK.out.2.1.grow (kb2), HK.out.2.2.grow (kb2)⟩)
  replace HXX := Lib.hid (HXX.out.grow (kb2))
  replace HRB := Lib.hid (HRB.out.grow (kb2))
  have g3 := (g2).trans (kb2)
  clear s0 s1 s2 s3 t0 t1 t2 t3 r0 r1
  obtain ⟨⟨s0, s1, s2, s3⟩, ⟨t0, t1, t2, t3⟩, r0, r1⟩ := HK.out
  clear HX hcA hcC mb2 hb2 g2
  go_wp2_with fail
  -- a drawn region from w12: the ledger's and the count's copies; takes 0 2, the group 4; to x3
  refine wp_region_A (by as_aux_lemma => kernel_rfl) ?_
  obtain ⟨z, hz⟩ : ∃ z : World, z = { w12 with drawn := w12.drawn + 1 } := ⟨_, rfl⟩
  rw [← hz]
  have gz : G w12 z := by rw [hz]; exact (G.refl _).drew
  clear hz
  have HS : LBox z w.heap.size l A C cA cC ∧ LBox z bx x A C1 cA c1 ∧ CBox z bc c B cB := ⟨HK.out.1.grow gz, HK.out.2.1.grow gz, HK.out.2.2.grow gz⟩
  clear s0 s1 s2 s3 t0 t1 t2 t3 r0 r1
  refine wpAny_fork (fun w' => LBox w' w.heap.size l A C cA cC ∧ LBox w' bx x A C1 cA c1 ∧ CBox w' bc c B cB) 4 ?_
  refine wpAnyU_takes' (i := 0) rfl (by as_aux_lemma => kernel_rfl) (fun _ _ _ _ h => h) HS ?_
  apply Exists.intro
  apply And.intro
  · refine Or.inl (And.intro (by rfl) ?_)
    rintro w ⟨⟨s0, s1, s2, s3⟩, ⟨t0, t1, t2, t3⟩, r0, r1⟩
    go_simp
    try rfl
  simp only [Act.put, List.setIfInBounds_toArray, List.set_cons_succ, List.set_cons_zero]
  refine wpAnyU_takes' (i := 2) rfl (by as_aux_lemma => kernel_rfl) (fun _ _ _ _ h => h) HS ?_
  apply Exists.intro
  apply And.intro
  · refine Or.inl (And.intro (by rfl) ?_)
    rintro w ⟨⟨s0, s1, s2, s3⟩, ⟨t0, t1, t2, t3⟩, r0, r1⟩
    go_simp
    try rfl
  simp only [Act.put, List.setIfInBounds_toArray, List.set_cons_succ, List.set_cons_zero]
  refine wpAnyT_one' (i := 1) (by as_aux_lemma => kernel_rfl) rfl ?_
  go_wp2_with fail
  refine (Ledger_c x A C1 cA c1 z (HXX.out.grow gz) (by omega) (by omega)).mono ?_
  rintro e x2 ⟨⟨AX, CX, cAX, cCX, rfl, hLX, -, -⟩, xb2⟩
  have HX := Lib.hid hLX
  clear hLX
  go_wp2_with fail
  replace HS : LBox x2 w.heap.size l A C cA cC ∧ LBox x2 bx x A C1 cA c1 ∧ CBox x2 bc c B cB := ⟨HS.1.grow xb2, HS.2.1.grow xb2, HS.2.2.grow xb2⟩
  refine ⟨HS, ?_⟩
  refine wpAnyT_one' (i := 3) (by as_aux_lemma => kernel_rfl) rfl ?_
  go_wp2_with fail
  refine (Count_c c B cB x2 (HRB.out.grow (gz.trans xb2)) (by omega)).mono ?_
  rintro e x3 ⟨⟨B3, c3, rfl, hr3⟩, xb3⟩
  have HRC := Lib.hid hr3
  clear hr3
  go_wp2_with fail
  refine ⟨⟨HS.1.grow xb3, HS.2.1.grow xb3, HS.2.2.grow xb3⟩, ?_⟩
  refine wpAnyT_close (by as_aux_lemma => kernel_rfl) ?_
  refine wpAny_part (k := 4) (n := 2) (f := 4) rfl rfl (by as_aux_lemma => kernel_rfl) ?_
  try simp only [List.drop_succ_cons, List.drop_zero, List.take_succ_cons, List.take_zero]
  go_wp2_with fail
  refine (Play_c x AX CX B3 cAX cCX c3 c x3 (HX.out.grow xb3) HRC.out (by omega) (by omega) hbl).mono ?_
  rw [HE4.out, HP4.out]
  rintro e w13 ⟨⟨v3, rfl, ho3⟩, hb3⟩
  obtain ⟨R3, q3, rfl, -, hr3⟩ := ho3.row
  have HR3 := Lib.hid hr3
  clear ho3 hr3
  have kb3 := gz.trans (xb2.trans (xb3.trans hb3))
  clear HS gz xb2 xb3 hb3 HX HRC
  -- extracts and assigns: group 9, takes 6 7 8, last $3
  have HS : True := trivial
  go_wp2_with fail
  refine wpAny_fork (fun _ => True) 9 ?_
  refine wpAnyU_takes' (i := 6) rfl (by as_aux_lemma => kernel_rfl) (fun _ _ _ _ h => h) HS ?_
  apply Exists.intro
  apply And.intro
  · refine Or.inl (And.intro (by rfl) ?_)
    rintro w s0
    go_simp
    try rfl
  simp only [Act.put, List.setIfInBounds_toArray, List.set_cons_succ, List.set_cons_zero]
  refine wpAnyU_takes' (i := 7) rfl (by as_aux_lemma => kernel_rfl) (fun _ _ _ _ h => h) HS ?_
  apply Exists.intro
  apply And.intro
  · refine Or.inl (And.intro (by rfl) ?_)
    rintro w s0
    go_simp
    try rfl
  simp only [Act.put, List.setIfInBounds_toArray, List.set_cons_succ, List.set_cons_zero]
  refine wpAnyU_takes' (i := 8) rfl (by as_aux_lemma => kernel_rfl) (fun _ _ _ _ h => h) HS ?_
  apply Exists.intro
  apply And.intro
  · refine Or.inl (And.intro (by rfl) ?_)
    rintro w s0
    go_simp
    try rfl
  simp only [Act.put, List.setIfInBounds_toArray, List.set_cons_succ, List.set_cons_zero]
  refine wpAnyT_close (by as_aux_lemma => kernel_rfl) ?_
  refine wpAny_part (k := 9) (n := 1) (f := 0) rfl rfl (by as_aux_lemma => kernel_rfl) ?_
  try simp only [List.drop_succ_cons, List.drop_zero, List.take_succ_cons, List.take_zero]
  go_wp2_with fail
  refine wpAny_done (by as_aux_lemma => kernel_rfl) ?_
  clear HS
  obtain ⟨⟨s0, s1, s2, s3⟩, ⟨t0, t1, t2, t3⟩, r0, r1⟩ := HK.out
  -- the boxes kept over kb3; growth g3 renewed to g4
  replace HK := Lib.hid (show LBox _ _ _ _ _ _ _ ∧ LBox _ _ _ _ _ _ _ ∧ CBox _ _ _ _ _ from ⟨HK.out.1.grow (kb3), HK.out.2.1.grow (kb3), HK.out.2.2.grow (kb3)⟩)
  replace HXX := Lib.hid (HXX.out.grow (kb3))
  replace HRB := Lib.hid (HRB.out.grow (kb3))
  have g4 := (g3).trans (kb3)
  clear s0 s1 s2 s3 t0 t1 t2 t3 r0 r1
  obtain ⟨⟨s0, s1, s2, s3⟩, ⟨t0, t1, t2, t3⟩, r0, r1⟩ := HK.out
  clear g3
  go_wp2_with fail
  -- a drawn region from w13: the ledger's and the count's copies; takes 0 2 4, the group 5; to x3
  refine wp_region_A (by as_aux_lemma => kernel_rfl) ?_
  obtain ⟨z, hz⟩ : ∃ z : World, z = { w13 with drawn := w13.drawn + 1 } := ⟨_, rfl⟩
  rw [← hz]
  have gz : G w13 z := by rw [hz]; exact (G.refl _).drew
  clear hz
  have HS : LBox z w.heap.size l A C cA cC ∧ LBox z bx x A C1 cA c1 ∧ CBox z bc c B cB := ⟨HK.out.1.grow gz, HK.out.2.1.grow gz, HK.out.2.2.grow gz⟩
  clear s0 s1 s2 s3 t0 t1 t2 t3 r0 r1
  refine wpAny_fork (fun w' => LBox w' w.heap.size l A C cA cC ∧ LBox w' bx x A C1 cA c1 ∧ CBox w' bc c B cB) 5 ?_
  refine wpAnyU_takes' (i := 0) rfl (by as_aux_lemma => kernel_rfl) (fun _ _ _ _ h => h) HS ?_
  apply Exists.intro
  apply And.intro
  · refine Or.inl (And.intro (by rfl) ?_)
    rintro w ⟨⟨s0, s1, s2, s3⟩, ⟨t0, t1, t2, t3⟩, r0, r1⟩
    go_simp
    try rfl
  simp only [Act.put, List.setIfInBounds_toArray, List.set_cons_succ, List.set_cons_zero]
  refine wpAnyU_takes' (i := 2) rfl (by as_aux_lemma => kernel_rfl) (fun _ _ _ _ h => h) HS ?_
  apply Exists.intro
  apply And.intro
  · refine Or.inl (And.intro (by rfl) ?_)
    rintro w ⟨⟨s0, s1, s2, s3⟩, ⟨t0, t1, t2, t3⟩, r0, r1⟩
    go_simp
    try rfl
  simp only [Act.put, List.setIfInBounds_toArray, List.set_cons_succ, List.set_cons_zero]
  refine wpAnyU_takes' (i := 4) rfl (by as_aux_lemma => kernel_rfl) (fun _ _ _ _ h => h) HS ?_
  apply Exists.intro
  apply And.intro
  · refine Or.inl (And.intro (by rfl) ?_)
    rintro w ⟨⟨s0, s1, s2, s3⟩, ⟨t0, t1, t2, t3⟩, r0, r1⟩
    go_simp
    try rfl
  simp only [Act.put, List.setIfInBounds_toArray, List.set_cons_succ, List.set_cons_zero]
  refine wpAnyT_one' (i := 1) (by as_aux_lemma => kernel_rfl) rfl ?_
  go_wp2_with fail
  refine (Ledger_c x A C1 cA c1 z (HXX.out.grow gz) (by omega) (by omega)).mono ?_
  rintro e x2 ⟨⟨AX, CX, cAX, cCX, rfl, hLX, -, -⟩, xb2⟩
  have HX := Lib.hid hLX
  clear hLX
  go_wp2_with fail
  replace HS : LBox x2 w.heap.size l A C cA cC ∧ LBox x2 bx x A C1 cA c1 ∧ CBox x2 bc c B cB := ⟨HS.1.grow xb2, HS.2.1.grow xb2, HS.2.2.grow xb2⟩
  refine ⟨HS, ?_⟩
  refine wpAnyT_one' (i := 3) (by as_aux_lemma => kernel_rfl) rfl ?_
  go_wp2_with fail
  refine (Count_c c B cB x2 (HRB.out.grow (gz.trans xb2)) (by omega)).mono ?_
  rintro e x3 ⟨⟨B3, c3, rfl, hr3⟩, xb3⟩
  have HRC := Lib.hid hr3
  clear hr3
  go_wp2_with fail
  refine ⟨⟨HS.1.grow xb3, HS.2.1.grow xb3, HS.2.2.grow xb3⟩, ?_⟩
  refine wpAnyT_close (by as_aux_lemma => kernel_rfl) ?_
  refine wpAny_part (k := 5) (n := 2) (f := 4) rfl rfl (by as_aux_lemma => kernel_rfl) ?_
  try simp only [List.drop_succ_cons, List.drop_zero, List.take_succ_cons, List.take_zero]
  go_wp2_with fail
  refine (Share_c x AX CX B3 cAX cCX c3 c n x3 (HX.out.grow xb3) HRC.out (by omega) (by omega) hbl).mono ?_
  rw [HE3.out, HS3.out]
  rintro e w14 ⟨⟨v4, rfl, ho4⟩, hb4⟩
  obtain ⟨R4, q4, rfl, -, hr4⟩ := ho4.row
  have HR4 := Lib.hid hr4
  clear ho4 hr4
  have kb4 := gz.trans (xb2.trans (xb3.trans hb4))
  clear HS gz xb2 xb3 hb4 HX HRC
  -- extracts and assigns: group 10, takes 7 8 9, last $3
  have HS : True := trivial
  go_wp2_with fail
  refine wpAny_fork (fun _ => True) 10 ?_
  refine wpAnyU_takes' (i := 7) rfl (by as_aux_lemma => kernel_rfl) (fun _ _ _ _ h => h) HS ?_
  apply Exists.intro
  apply And.intro
  · refine Or.inl (And.intro (by rfl) ?_)
    rintro w s0
    go_simp
    try rfl
  simp only [Act.put, List.setIfInBounds_toArray, List.set_cons_succ, List.set_cons_zero]
  refine wpAnyU_takes' (i := 8) rfl (by as_aux_lemma => kernel_rfl) (fun _ _ _ _ h => h) HS ?_
  apply Exists.intro
  apply And.intro
  · refine Or.inl (And.intro (by rfl) ?_)
    rintro w s0
    go_simp
    try rfl
  simp only [Act.put, List.setIfInBounds_toArray, List.set_cons_succ, List.set_cons_zero]
  refine wpAnyU_takes' (i := 9) rfl (by as_aux_lemma => kernel_rfl) (fun _ _ _ _ h => h) HS ?_
  apply Exists.intro
  apply And.intro
  · refine Or.inl (And.intro (by rfl) ?_)
    rintro w s0
    go_simp
    try rfl
  simp only [Act.put, List.setIfInBounds_toArray, List.set_cons_succ, List.set_cons_zero]
  refine wpAnyT_close (by as_aux_lemma => kernel_rfl) ?_
  refine wpAny_part (k := 10) (n := 1) (f := 0) rfl rfl (by as_aux_lemma => kernel_rfl) ?_
  try simp only [List.drop_succ_cons, List.drop_zero, List.take_succ_cons, List.take_zero]
  go_wp2_with fail
  refine wpAny_done (by as_aux_lemma => kernel_rfl) ?_
  clear HS
  obtain ⟨⟨s0, s1, s2, s3⟩, ⟨t0, t1, t2, t3⟩, r0, r1⟩ := HK.out
  -- the boxes kept over kb4; growth g4 renewed to g5
  replace HK := Lib.hid (show LBox _ _ _ _ _ _ _ ∧ LBox _ _ _ _ _ _ _ ∧ CBox _ _ _ _ _ from ⟨HK.out.1.grow (kb4), HK.out.2.1.grow (kb4), HK.out.2.2.grow (kb4)⟩)
  replace HXX := Lib.hid (HXX.out.grow (kb4))
  replace HRB := Lib.hid (HRB.out.grow (kb4))
  have g5 := (g4).trans (kb4)
  clear s0 s1 s2 s3 t0 t1 t2 t3 r0 r1
  obtain ⟨⟨s0, s1, s2, s3⟩, ⟨t0, t1, t2, t3⟩, r0, r1⟩ := HK.out
  clear g4
  -- Ledger of x A C1 cA c1 (its LedR HXX.out at the world w14), to m5 by mb5; lengths by omega; HX: the new LedR
  go_wp2_with fail
  refine (Ledger_c x A C1 cA c1 w14 (HXX.out) (by omega) (by omega)).mono ?_
  rintro e m5 ⟨⟨AX, CX, cAX, cCX, rfl, hLX, hcA, hcC⟩, mb5⟩
  have HX := Lib.hid hLX
  clear hLX
  go_wp2_with fail
  refine (Least_c x AX CX cAX cCX n m5 HX.out (by omega) (by omega)).mono ?_
  rw [HE2.out]
  rintro e w15 ⟨⟨v5, rfl, ho5⟩, hb5⟩
  obtain ⟨R5, q5, rfl, -, hr5⟩ := ho5.row
  have HR5 := Lib.hid hr5
  clear ho5 hr5
  have kb5 := mb5.trans hb5
  -- the boxes kept over kb5; growth g5 renewed to g6
  replace HK := Lib.hid (show LBox _ _ _ _ _ _ _ ∧ LBox _ _ _ _ _ _ _ ∧ CBox _ _ _ _ _ from ⟨HK.out.1.grow (kb5), HK.out.2.1.grow (kb5), HK.out.2.2.grow (kb5)⟩)
  replace HXX := Lib.hid (HXX.out.grow (kb5))
  replace HRB := Lib.hid (HRB.out.grow (kb5))
  have g6 := (g5).trans (kb5)
  clear s0 s1 s2 s3 t0 t1 t2 t3 r0 r1
  obtain ⟨⟨s0, s1, s2, s3⟩, ⟨t0, t1, t2, t3⟩, r0, r1⟩ := HK.out
  clear HX hcA hcC mb5 hb5 g5
  -- Ledger of x A C1 cA c1 (its LedR HXX.out at the world w15), to m6 by mb6; lengths by omega; HX: the new LedR
  go_wp2_with fail
  refine (Ledger_c x A C1 cA c1 w15 (HXX.out) (by omega) (by omega)).mono ?_
  rintro e m6 ⟨⟨AX, CX, cAX, cCX, rfl, hLX, hcA, hcC⟩, mb6⟩
  have HX := Lib.hid hLX
  clear hLX
  go_wp2_with fail
  refine (Leave_c x AX CX cAX cCX m6 HX.out (by omega) (by omega) (fun h => leaveF_some h)).mono ?_
  rw [fault_of HXV.out, HLV.out]
  rintro e w16 ⟨⟨v6, rfl, ho6⟩, hb6⟩
  obtain ⟨R6, q6, rfl, -, hr6⟩ := ho6.row
  have HR6 := Lib.hid hr6
  clear ho6 hr6
  have kb6 := mb6.trans hb6
  -- the boxes kept over kb6; growth g6 renewed to g7
  replace HK := Lib.hid (show LBox _ _ _ _ _ _ _ ∧ LBox _ _ _ _ _ _ _ ∧ CBox _ _ _ _ _ from ⟨HK.out.1.grow (kb6), HK.out.2.1.grow (kb6), HK.out.2.2.grow (kb6)⟩)
  replace HXX := Lib.hid (HXX.out.grow (kb6))
  replace HRB := Lib.hid (HRB.out.grow (kb6))
  have g7 := (g6).trans (kb6)
  clear s0 s1 s2 s3 t0 t1 t2 t3 r0 r1
  obtain ⟨⟨s0, s1, s2, s3⟩, ⟨t0, t1, t2, t3⟩, r0, r1⟩ := HK.out
  clear HX hcA hcC mb6 hb6 g6
  -- Ledger of x A C1 cA c1 (its LedR HXX.out at the world w16), to m7 by mb7; lengths by omega; HX: the new LedR
  go_wp2_with fail
  refine (Ledger_c x A C1 cA c1 w16 (HXX.out) (by omega) (by omega)).mono ?_
  rintro e m7 ⟨⟨AX, CX, cAX, cCX, rfl, hLX, hcA, hcC⟩, mb7⟩
  have HX := Lib.hid hLX
  clear hLX
  go_wp2_with fail
  refine (First_c x AX CX cAX cCX m7 HX.out (by omega) (by omega) hcC).mono ?_
  rw [HF7.out]
  rintro e w17 ⟨rfl, hb7⟩
  have kb7 := mb7.trans hb7
  -- the boxes kept over kb7; growth g7 renewed to g8
  replace HK := Lib.hid (show LBox _ _ _ _ _ _ _ ∧ LBox _ _ _ _ _ _ _ ∧ CBox _ _ _ _ _ from ⟨HK.out.1.grow (kb7), HK.out.2.1.grow (kb7), HK.out.2.2.grow (kb7)⟩)
  replace HXX := Lib.hid (HXX.out.grow (kb7))
  replace HRB := Lib.hid (HRB.out.grow (kb7))
  have g8 := (g7).trans (kb7)
  clear s0 s1 s2 s3 t0 t1 t2 t3 r0 r1
  obtain ⟨⟨s0, s1, s2, s3⟩, ⟨t0, t1, t2, t3⟩, r0, r1⟩ := HK.out
  clear HX hcA hcC mb7 hb7 g7
  replace HR0 := Lib.hid (HR0.out.grow (kb1.trans (kb2.trans (kb3.trans (kb4.trans (kb5.trans (kb6.trans (kb7))))))))
  replace HR1 := Lib.hid (HR1.out.grow (kb2.trans (kb3.trans (kb4.trans (kb5.trans (kb6.trans (kb7)))))))
  replace HR2 := Lib.hid (HR2.out.grow (kb3.trans (kb4.trans (kb5.trans (kb6.trans (kb7))))))
  replace HR3 := Lib.hid (HR3.out.grow (kb4.trans (kb5.trans (kb6.trans (kb7)))))
  replace HR4 := Lib.hid (HR4.out.grow (kb5.trans (kb6.trans (kb7))))
  replace HR5 := Lib.hid (HR5.out.grow (kb6.trans (kb7)))
  clear kb0 kb1 kb2 kb3 kb4 kb5 kb6 kb7
  have hB0 := boundL_length HA0.out
  have hC0 := clearL_length HA0.out
  have hM0 := least_len HE2.out
  have hD0 := dues_len x c
  have hS0 : (shareL (dues x c) n).length = x.gs.length := by rw [shareL_len, dues_len]
  rw [HXG.out] at hB0 hC0 hM0 hD0 hS0
  rw [hB0, hC0, hM0, hD0, hS0]
  have HB0 := Lib.hid hB0
  have HC0 := Lib.hid hC0
  have HM0 := Lib.hid hM0
  have HD0 := Lib.hid hD0
  have HS0 := Lib.hid hS0
  have p0 := HR1.out.cell 0 (v := .int .i64 (rateL x).1) rfl
  have p2 := HR1.out.cell 1 (v := .int .i64 (rateL x).2) rfl
  have HP0 := Lib.hid p0
  have HP2 := Lib.hid p2
  clear hB0 hC0 hM0 hD0 hS0
  generalize rateL x = ra at *
  have z1 : (c.r < ra.1) = False := eq_false (by omega)
  have z2 : decide (c.r < ra.1) = false := decide_eq_false (by omega)
  have z3 : (ra.2 < c.r) = False := eq_false (by omega)
  have z4 : decide (ra.2 < c.r) = false := decide_eq_false (by omega)
  have hnn : ((l.gs.length : Int) != l.gs.length) = false := by simp
  have hn0 : ((((0 : Nat)) : Int) != 0) = false := by simp
  go_upto_region 13 with fail
  go_cut [189] (fun v189 wc => v189 = .bool false ∧ G w17 wc)
  case first =>
   as_aux_lemma =>
    refine wp_region_A (by as_aux_lemma => kernel_rfl) ?_
    obtain ⟨z, hz⟩ : ∃ z : World, z = { w17 with drawn := w17.drawn + 1 } := ⟨_, rfl⟩
    rw [← hz]
    have gz : G w17 z := by rw [hz]; exact (G.refl _).drew
    clear hz
    have HLZ := HK.out.1.grow gz
    have HXZ := HK.out.2.1.grow gz
    have HCZ := HK.out.2.2.grow gz
    have HP0Z := gz.cell HP0.out
    have HP2Z := gz.cell HP2.out
    clear s0 s1 s2 s3 t0 t1 t2 t3 r0 r1 p0 p2
    refine wpAny_part (k := 0) (n := 36) (f := 57) rfl rfl (by as_aux_lemma => kernel_rfl) ?_
    try simp only [List.drop_succ_cons, List.drop_zero, List.take_succ_cons, List.take_zero]
    go_wp2_with fail
    have HS := HLZ
    refine wpAny_fork (fun w' => LBox w' w.heap.size l A C cA cC) 42 ?_
    refine wpAnyU_takes4 (nd := #[false, false, false, false, false, false, false, false, false, false, false, false, false, false, false, false, false, false, false, false, false, false, false, false, false, false, false, false, false, false, false, false, false, false, false, false, true, true, false, false, false, true, true, true, true, true, true, true, true, true, true, true, true, true, true, true, true, true, true, true, true, true, true, true, true, true, true, true, true, true, true, true, true, true, true, true, true, true, true, true, true, true, true, true, true, true, true, true, true, true, true, true, true]) (i := 36) rfl (by as_aux_lemma => kernel_rfl) (fun _ _ _ _ h => h) HS ?_
    apply Exists.intro
    apply And.intro
    · refine Or.inl (And.intro (by rfl) ?_)
      rintro w ⟨s0, s1, s2, s3⟩
      go_simp
      try rfl
    simp only [Act.put, List.setIfInBounds_toArray, List.set_cons_succ, List.set_cons_zero]
    refine wpAnyU_takes4 (nd := #[false, false, false, false, false, false, false, false, false, false, false, false, false, false, false, false, false, false, false, false, false, false, false, false, false, false, false, false, false, false, false, false, false, false, false, false, false, true, false, false, false, true, true, true, true, true, true, true, true, true, true, true, true, true, true, true, true, true, true, true, true, true, true, true, true, true, true, true, true, true, true, true, true, true, true, true, true, true, true, true, true, true, true, true, true, true, true, true, true, true, true, true, true]) (i := 37) rfl (by as_aux_lemma => kernel_rfl) (fun _ _ _ _ h => h) HS ?_
    apply Exists.intro
    apply And.intro
    · refine Or.inl (And.intro (by rfl) ?_)
      rintro w ⟨s0, s1, s2, s3⟩
      go_simp
      try rfl
    simp only [Act.put, List.setIfInBounds_toArray, List.set_cons_succ, List.set_cons_zero]
    refine wpAnyU_takes4 (nd := #[false, false, false, false, false, false, false, false, false, false, false, false, false, false, false, false, false, false, false, false, false, false, false, false, false, false, false, false, false, false, false, false, false, false, false, false, false, false, true, true, true, true, true, true, true, true, true, true, true, true, true, true, true, true, true, true, true, true, true, true, true, true, true, true, true, true, true, true, true, true, true, true, true, true, true, true, true, true, true, true, true, true, true, true, true, true, true, true, true, true, true, true, true]) (i := 38) rfl (by as_aux_lemma => kernel_rfl) (fun _ _ _ _ h => h) HS ?_
    apply Exists.intro
    apply And.intro
    · refine Or.inl (And.intro (by rfl) ?_)
      rintro w ⟨s0, s1, s2, s3⟩
      go_simp
      try rfl
    simp only [Act.put, List.setIfInBounds_toArray, List.set_cons_succ, List.set_cons_zero]
    refine wpAnyU_takes4 (nd := #[false, false, false, false, false, false, false, false, false, false, false, false, false, false, false, false, false, false, false, false, false, false, false, false, false, false, false, false, false, false, false, false, false, false, false, false, false, false, false, true, true, true, true, true, true, true, true, true, true, true, true, true, true, true, true, true, true, true, true, true, true, true, true, true, true, true, true, true, true, true, true, true, true, true, true, true, true, true, true, true, true, true, true, true, true, true, true, true, true, true, true, true, true]) (i := 39) rfl (by as_aux_lemma => kernel_rfl) (fun _ _ _ _ h => h) HS ?_
    apply Exists.intro
    apply And.intro
    · refine Or.inl (And.intro (by rfl) ?_)
      rintro w ⟨s0, s1, s2, s3⟩
      go_simp
      try rfl
    simp only [Act.put, List.setIfInBounds_toArray, List.set_cons_succ, List.set_cons_zero]
    refine wpAnyU_takes4 (nd := #[false, false, false, false, false, false, false, false, false, false, false, false, false, false, false, false, false, false, false, false, false, false, false, false, false, false, false, false, false, false, false, false, false, false, false, false, false, false, false, false, true, true, true, true, true, true, true, true, true, true, true, true, true, true, true, true, true, true, true, true, true, true, true, true, true, true, true, true, true, true, true, true, true, true, true, true, true, true, true, true, true, true, true, true, true, true, true, true, true, true, true, true, true]) (i := 40) rfl (by as_aux_lemma => kernel_rfl) (fun _ _ _ _ h => h) HS ?_
    apply Exists.intro
    apply And.intro
    · refine Or.inl (And.intro (by rfl) ?_)
      rintro w ⟨s0, s1, s2, s3⟩
      go_simp
      try rfl
    simp only [Act.put, List.setIfInBounds_toArray, List.set_cons_succ, List.set_cons_zero]
    refine wpAnyU_takes4 (nd := #[false, false, false, false, false, false, false, false, false, false, false, false, false, false, false, false, false, false, false, false, false, false, false, false, false, false, false, false, false, false, false, false, false, false, false, false, false, false, false, false, false, true, true, true, true, true, true, true, true, true, true, true, true, true, true, true, true, true, true, true, true, true, true, true, true, true, true, true, true, true, true, true, true, true, true, true, true, true, true, true, true, true, true, true, true, true, true, true, true, true, true, true, true]) (i := 41) rfl (by as_aux_lemma => kernel_rfl) (fun _ _ _ _ h => h) HS ?_
    apply Exists.intro
    apply And.intro
    · refine Or.inl (And.intro (by rfl) ?_)
      rintro w ⟨s0, s1, s2, s3⟩
      go_simp
      try rfl
    simp only [Act.put, List.setIfInBounds_toArray, List.set_cons_succ, List.set_cons_zero]
    refine wpAnyT_close (by as_aux_lemma => kernel_rfl) ?_
    clear HS
    refine wpAny_part (k := 42) (n := 2) (f := 49) rfl rfl (by as_aux_lemma => kernel_rfl) ?_
    try simp only [List.drop_succ_cons, List.drop_zero, List.take_succ_cons, List.take_zero]
    go_wp2_with fail
    have HS : True := trivial
    refine wpAny_fork (fun _ => True) 49 ?_
    refine wpAnyU_takes4 (nd := #[false, false, false, false, false, false, false, false, false, false, false, false, false, false, false, false, false, false, false, false, false, false, false, false, false, false, false, false, false, false, false, false, false, false, false, false, false, false, false, false, false, false, false, false, true, true, false, false, true, true, true, true, true, true, true, true, true, true, true, true, true, true, true, true, true, true, true, true, true, true, true, true, true, true, true, true, true, true, true, true, true, true, true, true, true, true, true, true, true, true, true, true, true]) (i := 44) rfl (by as_aux_lemma => kernel_rfl) (fun _ _ _ _ h => h) HS ?_
    apply Exists.intro
    apply And.intro
    · refine Or.inl (And.intro (by rfl) ?_)
      rintro w s0
      go_simp
      try rfl
    simp only [Act.put, List.setIfInBounds_toArray, List.set_cons_succ, List.set_cons_zero]
    refine wpAnyU_takes4 (nd := #[false, false, false, false, false, false, false, false, false, false, false, false, false, false, false, false, false, false, false, false, false, false, false, false, false, false, false, false, false, false, false, false, false, false, false, false, false, false, false, false, false, false, false, false, false, true, false, false, true, true, true, true, true, true, true, true, true, true, true, true, true, true, true, true, true, true, true, true, true, true, true, true, true, true, true, true, true, true, true, true, true, true, true, true, true, true, true, true, true, true, true, true, true]) (i := 45) rfl (by as_aux_lemma => kernel_rfl) (fun _ _ _ _ h => h) HS ?_
    apply Exists.intro
    apply And.intro
    · refine Or.inl (And.intro (by rfl) ?_)
      rintro w s0
      go_simp
      try rfl
    simp only [Act.put, List.setIfInBounds_toArray, List.set_cons_succ, List.set_cons_zero]
    refine wpAnyU_takes4 (nd := #[false, false, false, false, false, false, false, false, false, false, false, false, false, false, false, false, false, false, false, false, false, false, false, false, false, false, false, false, false, false, false, false, false, false, false, false, false, false, false, false, false, false, false, false, false, false, true, true, true, true, true, true, true, true, true, true, true, true, true, true, true, true, true, true, true, true, true, true, true, true, true, true, true, true, true, true, true, true, true, true, true, true, true, true, true, true, true, true, true, true, true, true, true]) (i := 46) rfl (by as_aux_lemma => kernel_rfl) (fun _ _ _ _ h => h) HS ?_
    apply Exists.intro
    apply And.intro
    · refine Or.inl (And.intro (by rfl) ?_)
      rintro w s0
      go_simp
      try rfl
    simp only [Act.put, List.setIfInBounds_toArray, List.set_cons_succ, List.set_cons_zero]
    refine wpAnyU_takes4 (nd := #[false, false, false, false, false, false, false, false, false, false, false, false, false, false, false, false, false, false, false, false, false, false, false, false, false, false, false, false, false, false, false, false, false, false, false, false, false, false, false, false, false, false, false, false, false, false, false, true, true, true, true, true, true, true, true, true, true, true, true, true, true, true, true, true, true, true, true, true, true, true, true, true, true, true, true, true, true, true, true, true, true, true, true, true, true, true, true, true, true, true, true, true, true]) (i := 47) rfl (by as_aux_lemma => kernel_rfl) (fun _ _ _ _ h => h) HS ?_
    apply Exists.intro
    apply And.intro
    · refine Or.inl (And.intro (by rfl) ?_)
      rintro w s0
      go_simp
      try rfl
    simp only [Act.put, List.setIfInBounds_toArray, List.set_cons_succ, List.set_cons_zero]
    refine wpAnyU_takes4 (nd := #[false, false, false, false, false, false, false, false, false, false, false, false, false, false, false, false, false, false, false, false, false, false, false, false, false, false, false, false, false, false, false, false, false, false, false, false, false, false, false, false, false, false, false, false, false, false, false, false, true, true, true, true, true, true, true, true, true, true, true, true, true, true, true, true, true, true, true, true, true, true, true, true, true, true, true, true, true, true, true, true, true, true, true, true, true, true, true, true, true, true, true, true, true]) (i := 48) rfl (by as_aux_lemma => kernel_rfl) (fun _ _ _ _ h => h) HS ?_
    apply Exists.intro
    apply And.intro
    · refine Or.inl (And.intro (by rfl) ?_)
      rintro w s0
      go_simp
      try rfl
    simp only [Act.put, List.setIfInBounds_toArray, List.set_cons_succ, List.set_cons_zero]
    refine wpAnyT_close (by as_aux_lemma => kernel_rfl) ?_
    clear HS
    refine wpAny_part (k := 49) (n := 2) (f := 42) rfl rfl (by as_aux_lemma => kernel_rfl) ?_
    try simp only [List.drop_succ_cons, List.drop_zero, List.take_succ_cons, List.take_zero]
    go_wp2_with fail
    have HS : True := trivial
    refine wpAny_fork (fun _ => True) 56 ?_
    refine wpAnyU_takes4 (nd := #[false, false, false, false, false, false, false, false, false, false, false, false, false, false, false, false, false, false, false, false, false, false, false, false, false, false, false, false, false, false, false, false, false, false, false, false, false, false, false, false, false, false, false, false, false, false, false, false, false, false, false, true, true, false, false, true, true, true, true, true, true, true, true, true, true, true, true, true, true, true, true, true, true, true, true, true, true, true, true, true, true, true, true, true, true, true, true, true, true, true, true, true, true]) (i := 51) rfl (by as_aux_lemma => kernel_rfl) (fun _ _ _ _ h => h) HS ?_
    apply Exists.intro
    apply And.intro
    · refine Or.inl (And.intro (by rfl) ?_)
      rintro w s0
      go_simp
      try rfl
    simp only [Act.put, List.setIfInBounds_toArray, List.set_cons_succ, List.set_cons_zero]
    refine wpAnyU_takes4 (nd := #[false, false, false, false, false, false, false, false, false, false, false, false, false, false, false, false, false, false, false, false, false, false, false, false, false, false, false, false, false, false, false, false, false, false, false, false, false, false, false, false, false, false, false, false, false, false, false, false, false, false, false, false, true, false, false, true, true, true, true, true, true, true, true, true, true, true, true, true, true, true, true, true, true, true, true, true, true, true, true, true, true, true, true, true, true, true, true, true, true, true, true, true, true]) (i := 52) rfl (by as_aux_lemma => kernel_rfl) (fun _ _ _ _ h => h) HS ?_
    apply Exists.intro
    apply And.intro
    · refine Or.inl (And.intro (by rfl) ?_)
      rintro w s0
      go_simp
      try rfl
    simp only [Act.put, List.setIfInBounds_toArray, List.set_cons_succ, List.set_cons_zero]
    refine wpAnyU_takes4 (nd := #[false, false, false, false, false, false, false, false, false, false, false, false, false, false, false, false, false, false, false, false, false, false, false, false, false, false, false, false, false, false, false, false, false, false, false, false, false, false, false, false, false, false, false, false, false, false, false, false, false, false, false, false, false, true, true, true, true, true, true, true, true, true, true, true, true, true, true, true, true, true, true, true, true, true, true, true, true, true, true, true, true, true, true, true, true, true, true, true, true, true, true, true, true]) (i := 53) rfl (by as_aux_lemma => kernel_rfl) (fun _ _ _ _ h => h) HS ?_
    apply Exists.intro
    apply And.intro
    · refine Or.inl (And.intro (by rfl) ?_)
      rintro w s0
      go_simp
      try rfl
    simp only [Act.put, List.setIfInBounds_toArray, List.set_cons_succ, List.set_cons_zero]
    refine wpAnyU_takes4 (nd := #[false, false, false, false, false, false, false, false, false, false, false, false, false, false, false, false, false, false, false, false, false, false, false, false, false, false, false, false, false, false, false, false, false, false, false, false, false, false, false, false, false, false, false, false, false, false, false, false, false, false, false, false, false, false, true, true, true, true, true, true, true, true, true, true, true, true, true, true, true, true, true, true, true, true, true, true, true, true, true, true, true, true, true, true, true, true, true, true, true, true, true, true, true]) (i := 54) rfl (by as_aux_lemma => kernel_rfl) (fun _ _ _ _ h => h) HS ?_
    apply Exists.intro
    apply And.intro
    · refine Or.inl (And.intro (by rfl) ?_)
      rintro w s0
      go_simp
      try rfl
    simp only [Act.put, List.setIfInBounds_toArray, List.set_cons_succ, List.set_cons_zero]
    refine wpAnyU_takes4 (nd := #[false, false, false, false, false, false, false, false, false, false, false, false, false, false, false, false, false, false, false, false, false, false, false, false, false, false, false, false, false, false, false, false, false, false, false, false, false, false, false, false, false, false, false, false, false, false, false, false, false, false, false, false, false, false, false, true, true, true, true, true, true, true, true, true, true, true, true, true, true, true, true, true, true, true, true, true, true, true, true, true, true, true, true, true, true, true, true, true, true, true, true, true, true]) (i := 55) rfl (by as_aux_lemma => kernel_rfl) (fun _ _ _ _ h => h) HS ?_
    apply Exists.intro
    apply And.intro
    · refine Or.inl (And.intro (by rfl) ?_)
      rintro w s0
      go_simp
      try rfl
    simp only [Act.put, List.setIfInBounds_toArray, List.set_cons_succ, List.set_cons_zero]
    refine wpAnyT_close (by as_aux_lemma => kernel_rfl) ?_
    clear HS
    refine wpAny_part (k := 56) (n := 2) (f := 35) rfl rfl (by as_aux_lemma => kernel_rfl) ?_
    try simp only [List.drop_succ_cons, List.drop_zero, List.take_succ_cons, List.take_zero]
    go_wp2_with fail
    have HS : True := trivial
    refine wpAny_fork (fun _ => True) 63 ?_
    refine wpAnyU_takes4 (nd := #[false, false, false, false, false, false, false, false, false, false, false, false, false, false, false, false, false, false, false, false, false, false, false, false, false, false, false, false, false, false, false, false, false, false, false, false, false, false, false, false, false, false, false, false, false, false, false, false, false, false, false, false, false, false, false, false, false, false, true, true, false, false, true, true, true, true, true, true, true, true, true, true, true, true, true, true, true, true, true, true, true, true, true, true, true, true, true, true, true, true, true, true, true]) (i := 58) rfl (by as_aux_lemma => kernel_rfl) (fun _ _ _ _ h => h) HS ?_
    apply Exists.intro
    apply And.intro
    · refine Or.inl (And.intro (by rfl) ?_)
      rintro w s0
      go_simp
      try rfl
    simp only [Act.put, List.setIfInBounds_toArray, List.set_cons_succ, List.set_cons_zero]
    refine wpAnyU_takes4 (nd := #[false, false, false, false, false, false, false, false, false, false, false, false, false, false, false, false, false, false, false, false, false, false, false, false, false, false, false, false, false, false, false, false, false, false, false, false, false, false, false, false, false, false, false, false, false, false, false, false, false, false, false, false, false, false, false, false, false, false, false, true, false, false, true, true, true, true, true, true, true, true, true, true, true, true, true, true, true, true, true, true, true, true, true, true, true, true, true, true, true, true, true, true, true]) (i := 59) rfl (by as_aux_lemma => kernel_rfl) (fun _ _ _ _ h => h) HS ?_
    apply Exists.intro
    apply And.intro
    · refine Or.inl (And.intro (by rfl) ?_)
      rintro w s0
      go_simp
      try rfl
    simp only [Act.put, List.setIfInBounds_toArray, List.set_cons_succ, List.set_cons_zero]
    refine wpAnyU_takes4 (nd := #[false, false, false, false, false, false, false, false, false, false, false, false, false, false, false, false, false, false, false, false, false, false, false, false, false, false, false, false, false, false, false, false, false, false, false, false, false, false, false, false, false, false, false, false, false, false, false, false, false, false, false, false, false, false, false, false, false, false, false, false, true, true, true, true, true, true, true, true, true, true, true, true, true, true, true, true, true, true, true, true, true, true, true, true, true, true, true, true, true, true, true, true, true]) (i := 60) rfl (by as_aux_lemma => kernel_rfl) (fun _ _ _ _ h => h) HS ?_
    apply Exists.intro
    apply And.intro
    · refine Or.inl (And.intro (by rfl) ?_)
      rintro w s0
      go_simp
      try rfl
    simp only [Act.put, List.setIfInBounds_toArray, List.set_cons_succ, List.set_cons_zero]
    refine wpAnyU_takes4 (nd := #[false, false, false, false, false, false, false, false, false, false, false, false, false, false, false, false, false, false, false, false, false, false, false, false, false, false, false, false, false, false, false, false, false, false, false, false, false, false, false, false, false, false, false, false, false, false, false, false, false, false, false, false, false, false, false, false, false, false, false, false, false, true, true, true, true, true, true, true, true, true, true, true, true, true, true, true, true, true, true, true, true, true, true, true, true, true, true, true, true, true, true, true, true]) (i := 61) rfl (by as_aux_lemma => kernel_rfl) (fun _ _ _ _ h => h) HS ?_
    apply Exists.intro
    apply And.intro
    · refine Or.inl (And.intro (by rfl) ?_)
      rintro w s0
      go_simp
      try rfl
    simp only [Act.put, List.setIfInBounds_toArray, List.set_cons_succ, List.set_cons_zero]
    refine wpAnyU_takes4 (nd := #[false, false, false, false, false, false, false, false, false, false, false, false, false, false, false, false, false, false, false, false, false, false, false, false, false, false, false, false, false, false, false, false, false, false, false, false, false, false, false, false, false, false, false, false, false, false, false, false, false, false, false, false, false, false, false, false, false, false, false, false, false, false, true, true, true, true, true, true, true, true, true, true, true, true, true, true, true, true, true, true, true, true, true, true, true, true, true, true, true, true, true, true, true]) (i := 62) rfl (by as_aux_lemma => kernel_rfl) (fun _ _ _ _ h => h) HS ?_
    apply Exists.intro
    apply And.intro
    · refine Or.inl (And.intro (by rfl) ?_)
      rintro w s0
      go_simp
      try rfl
    simp only [Act.put, List.setIfInBounds_toArray, List.set_cons_succ, List.set_cons_zero]
    refine wpAnyT_close (by as_aux_lemma => kernel_rfl) ?_
    clear HS
    refine wpAny_part (k := 63) (n := 2) (f := 28) rfl rfl (by as_aux_lemma => kernel_rfl) ?_
    try simp only [List.drop_succ_cons, List.drop_zero, List.take_succ_cons, List.take_zero]
    go_wp2_with fail
    have HS : True := trivial
    refine wpAny_fork (fun _ => True) 70 ?_
    refine wpAnyU_takes4 (nd := #[false, false, false, false, false, false, false, false, false, false, false, false, false, false, false, false, false, false, false, false, false, false, false, false, false, false, false, false, false, false, false, false, false, false, false, false, false, false, false, false, false, false, false, false, false, false, false, false, false, false, false, false, false, false, false, false, false, false, false, false, false, false, false, false, false, true, true, false, false, true, true, true, true, true, true, true, true, true, true, true, true, true, true, true, true, true, true, true, true, true, true, true, true]) (i := 65) rfl (by as_aux_lemma => kernel_rfl) (fun _ _ _ _ h => h) HS ?_
    apply Exists.intro
    apply And.intro
    · refine Or.inl (And.intro (by rfl) ?_)
      rintro w s0
      go_simp
      try rfl
    simp only [Act.put, List.setIfInBounds_toArray, List.set_cons_succ, List.set_cons_zero]
    refine wpAnyU_takes4 (nd := #[false, false, false, false, false, false, false, false, false, false, false, false, false, false, false, false, false, false, false, false, false, false, false, false, false, false, false, false, false, false, false, false, false, false, false, false, false, false, false, false, false, false, false, false, false, false, false, false, false, false, false, false, false, false, false, false, false, false, false, false, false, false, false, false, false, false, true, false, false, true, true, true, true, true, true, true, true, true, true, true, true, true, true, true, true, true, true, true, true, true, true, true, true]) (i := 66) rfl (by as_aux_lemma => kernel_rfl) (fun _ _ _ _ h => h) HS ?_
    apply Exists.intro
    apply And.intro
    · refine Or.inl (And.intro (by rfl) ?_)
      rintro w s0
      go_simp
      try rfl
    simp only [Act.put, List.setIfInBounds_toArray, List.set_cons_succ, List.set_cons_zero]
    refine wpAnyU_takes4 (nd := #[false, false, false, false, false, false, false, false, false, false, false, false, false, false, false, false, false, false, false, false, false, false, false, false, false, false, false, false, false, false, false, false, false, false, false, false, false, false, false, false, false, false, false, false, false, false, false, false, false, false, false, false, false, false, false, false, false, false, false, false, false, false, false, false, false, false, false, true, true, true, true, true, true, true, true, true, true, true, true, true, true, true, true, true, true, true, true, true, true, true, true, true, true]) (i := 67) rfl (by as_aux_lemma => kernel_rfl) (fun _ _ _ _ h => h) HS ?_
    apply Exists.intro
    apply And.intro
    · refine Or.inl (And.intro (by rfl) ?_)
      rintro w s0
      go_simp
      try rfl
    simp only [Act.put, List.setIfInBounds_toArray, List.set_cons_succ, List.set_cons_zero]
    refine wpAnyU_takes4 (nd := #[false, false, false, false, false, false, false, false, false, false, false, false, false, false, false, false, false, false, false, false, false, false, false, false, false, false, false, false, false, false, false, false, false, false, false, false, false, false, false, false, false, false, false, false, false, false, false, false, false, false, false, false, false, false, false, false, false, false, false, false, false, false, false, false, false, false, false, false, true, true, true, true, true, true, true, true, true, true, true, true, true, true, true, true, true, true, true, true, true, true, true, true, true]) (i := 68) rfl (by as_aux_lemma => kernel_rfl) (fun _ _ _ _ h => h) HS ?_
    apply Exists.intro
    apply And.intro
    · refine Or.inl (And.intro (by rfl) ?_)
      rintro w s0
      go_simp
      try rfl
    simp only [Act.put, List.setIfInBounds_toArray, List.set_cons_succ, List.set_cons_zero]
    refine wpAnyU_takes4 (nd := #[false, false, false, false, false, false, false, false, false, false, false, false, false, false, false, false, false, false, false, false, false, false, false, false, false, false, false, false, false, false, false, false, false, false, false, false, false, false, false, false, false, false, false, false, false, false, false, false, false, false, false, false, false, false, false, false, false, false, false, false, false, false, false, false, false, false, false, false, false, true, true, true, true, true, true, true, true, true, true, true, true, true, true, true, true, true, true, true, true, true, true, true, true]) (i := 69) rfl (by as_aux_lemma => kernel_rfl) (fun _ _ _ _ h => h) HS ?_
    apply Exists.intro
    apply And.intro
    · refine Or.inl (And.intro (by rfl) ?_)
      rintro w s0
      go_simp
      try rfl
    simp only [Act.put, List.setIfInBounds_toArray, List.set_cons_succ, List.set_cons_zero]
    refine wpAnyT_close (by as_aux_lemma => kernel_rfl) ?_
    clear HS
    refine wpAny_part (k := 70) (n := 2) (f := 21) rfl rfl (by as_aux_lemma => kernel_rfl) ?_
    try simp only [List.drop_succ_cons, List.drop_zero, List.take_succ_cons, List.take_zero]
    go_wp2_with fail
    have HS : CBox z bc c B cB ∧ z.cell? ⟨p1, 0, none⟩ = some (.int .i64 ra.1) ∧ z.cell? ⟨p1, 1, none⟩ = some (.int .i64 ra.2) := ⟨HCZ, HP0Z, HP2Z⟩
    refine wpAny_fork (fun w' => CBox w' bc c B cB ∧ w'.cell? ⟨p1, 0, none⟩ = some (.int .i64 ra.1) ∧ w'.cell? ⟨p1, 1, none⟩ = some (.int .i64 ra.2)) 77 ?_
    refine wpAnyU_takes4 (nd := #[false, false, false, false, false, false, false, false, false, false, false, false, false, false, false, false, false, false, false, false, false, false, false, false, false, false, false, false, false, false, false, false, false, false, false, false, false, false, false, false, false, false, false, false, false, false, false, false, false, false, false, false, false, false, false, false, false, false, false, false, false, false, false, false, false, false, false, false, false, false, false, false, true, true, false, false, true, true, true, true, true, true, true, true, true, true, true, true, true, true, true, true, true]) (i := 72) rfl (by as_aux_lemma => kernel_rfl) (fun _ _ _ _ h => h) HS ?_
    apply Exists.intro
    apply And.intro
    · refine Or.inl (And.intro (by rfl) ?_)
      rintro w ⟨⟨s0, s1⟩, s2, s3⟩
      go_simp
      try rfl
    simp only [Act.put, List.setIfInBounds_toArray, List.set_cons_succ, List.set_cons_zero]
    refine wpAnyU_takes4 (nd := #[false, false, false, false, false, false, false, false, false, false, false, false, false, false, false, false, false, false, false, false, false, false, false, false, false, false, false, false, false, false, false, false, false, false, false, false, false, false, false, false, false, false, false, false, false, false, false, false, false, false, false, false, false, false, false, false, false, false, false, false, false, false, false, false, false, false, false, false, false, false, false, false, false, true, false, false, true, true, true, true, true, true, true, true, true, true, true, true, true, true, true, true, true]) (i := 73) rfl (by as_aux_lemma => kernel_rfl) (fun _ _ _ _ h => h) HS ?_
    apply Exists.intro
    apply And.intro
    · refine Or.inl (And.intro (by rfl) ?_)
      rintro w ⟨⟨s0, s1⟩, s2, s3⟩
      go_simp
      try rfl
    simp only [Act.put, List.setIfInBounds_toArray, List.set_cons_succ, List.set_cons_zero]
    refine wpAnyU_takes4 (nd := #[false, false, false, false, false, false, false, false, false, false, false, false, false, false, false, false, false, false, false, false, false, false, false, false, false, false, false, false, false, false, false, false, false, false, false, false, false, false, false, false, false, false, false, false, false, false, false, false, false, false, false, false, false, false, false, false, false, false, false, false, false, false, false, false, false, false, false, false, false, false, false, false, false, false, true, true, true, true, true, true, true, true, true, true, true, true, true, true, true, true, true, true, true]) (i := 74) rfl (by as_aux_lemma => kernel_rfl) (fun _ _ _ _ h => h) HS ?_
    apply Exists.intro
    apply And.intro
    · refine Or.inl (And.intro (by rfl) ?_)
      rintro w ⟨⟨s0, s1⟩, s2, s3⟩
      go_simp
      try rfl
    simp only [Act.put, List.setIfInBounds_toArray, List.set_cons_succ, List.set_cons_zero]
    refine wpAnyU_takes4 (nd := #[false, false, false, false, false, false, false, false, false, false, false, false, false, false, false, false, false, false, false, false, false, false, false, false, false, false, false, false, false, false, false, false, false, false, false, false, false, false, false, false, false, false, false, false, false, false, false, false, false, false, false, false, false, false, false, false, false, false, false, false, false, false, false, false, false, false, false, false, false, false, false, false, false, false, false, true, true, true, true, true, true, true, true, true, true, true, true, true, true, true, true, true, true]) (i := 75) rfl (by as_aux_lemma => kernel_rfl) (fun _ _ _ _ h => h) HS ?_
    apply Exists.intro
    apply And.intro
    · refine Or.inl (And.intro (by rfl) ?_)
      rintro w ⟨⟨s0, s1⟩, s2, s3⟩
      go_simp
      try rfl
    simp only [Act.put, List.setIfInBounds_toArray, List.set_cons_succ, List.set_cons_zero]
    refine wpAnyU_takes4 (nd := #[false, false, false, false, false, false, false, false, false, false, false, false, false, false, false, false, false, false, false, false, false, false, false, false, false, false, false, false, false, false, false, false, false, false, false, false, false, false, false, false, false, false, false, false, false, false, false, false, false, false, false, false, false, false, false, false, false, false, false, false, false, false, false, false, false, false, false, false, false, false, false, false, false, false, false, false, true, true, true, true, true, true, true, true, true, true, true, true, true, true, true, true, true]) (i := 76) rfl (by as_aux_lemma => kernel_rfl) (fun _ _ _ _ h => h) HS ?_
    apply Exists.intro
    apply And.intro
    · refine Or.inl (And.intro (by rfl) ?_)
      rintro w ⟨⟨s0, s1⟩, s2, s3⟩
      go_simp
      try rfl
    simp only [Act.put, List.setIfInBounds_toArray, List.set_cons_succ, List.set_cons_zero]
    refine wpAnyT_close (by as_aux_lemma => kernel_rfl) ?_
    refine wpAny_part (k := 77) (n := 2) (f := 14) rfl rfl (by as_aux_lemma => kernel_rfl) ?_
    try simp only [List.drop_succ_cons, List.drop_zero, List.take_succ_cons, List.take_zero]
    go_wp2_with fail
    refine wpAny_fork (fun w' => CBox w' bc c B cB ∧ w'.cell? ⟨p1, 0, none⟩ = some (.int .i64 ra.1) ∧ w'.cell? ⟨p1, 1, none⟩ = some (.int .i64 ra.2)) 84 ?_
    refine wpAnyU_takes4 (nd := #[false, false, false, false, false, false, false, false, false, false, false, false, false, false, false, false, false, false, false, false, false, false, false, false, false, false, false, false, false, false, false, false, false, false, false, false, false, false, false, false, false, false, false, false, false, false, false, false, false, false, false, false, false, false, false, false, false, false, false, false, false, false, false, false, false, false, false, false, false, false, false, false, false, false, false, false, false, false, false, true, true, false, false, true, true, true, true, true, true, true, true, true, true]) (i := 79) rfl (by as_aux_lemma => kernel_rfl) (fun _ _ _ _ h => h) HS ?_
    apply Exists.intro
    apply And.intro
    · refine Or.inl (And.intro (by rfl) ?_)
      rintro w ⟨⟨s0, s1⟩, s2, s3⟩
      go_simp
      try rfl
    simp only [Act.put, List.setIfInBounds_toArray, List.set_cons_succ, List.set_cons_zero]
    refine wpAnyU_takes4 (nd := #[false, false, false, false, false, false, false, false, false, false, false, false, false, false, false, false, false, false, false, false, false, false, false, false, false, false, false, false, false, false, false, false, false, false, false, false, false, false, false, false, false, false, false, false, false, false, false, false, false, false, false, false, false, false, false, false, false, false, false, false, false, false, false, false, false, false, false, false, false, false, false, false, false, false, false, false, false, false, false, false, true, false, false, true, true, true, true, true, true, true, true, true, true]) (i := 80) rfl (by as_aux_lemma => kernel_rfl) (fun _ _ _ _ h => h) HS ?_
    apply Exists.intro
    apply And.intro
    · refine Or.inl (And.intro (by rfl) ?_)
      rintro w ⟨⟨s0, s1⟩, s2, s3⟩
      go_simp
      try rfl
    simp only [Act.put, List.setIfInBounds_toArray, List.set_cons_succ, List.set_cons_zero]
    refine wpAnyU_takes4 (nd := #[false, false, false, false, false, false, false, false, false, false, false, false, false, false, false, false, false, false, false, false, false, false, false, false, false, false, false, false, false, false, false, false, false, false, false, false, false, false, false, false, false, false, false, false, false, false, false, false, false, false, false, false, false, false, false, false, false, false, false, false, false, false, false, false, false, false, false, false, false, false, false, false, false, false, false, false, false, false, false, false, false, true, true, true, true, true, true, true, true, true, true, true, true]) (i := 81) rfl (by as_aux_lemma => kernel_rfl) (fun _ _ _ _ h => h) HS ?_
    apply Exists.intro
    apply And.intro
    · refine Or.inl (And.intro (by rfl) ?_)
      rintro w ⟨⟨s0, s1⟩, s2, s3⟩
      go_simp
      try rfl
    simp only [Act.put, List.setIfInBounds_toArray, List.set_cons_succ, List.set_cons_zero]
    refine wpAnyU_takes4 (nd := #[false, false, false, false, false, false, false, false, false, false, false, false, false, false, false, false, false, false, false, false, false, false, false, false, false, false, false, false, false, false, false, false, false, false, false, false, false, false, false, false, false, false, false, false, false, false, false, false, false, false, false, false, false, false, false, false, false, false, false, false, false, false, false, false, false, false, false, false, false, false, false, false, false, false, false, false, false, false, false, false, false, false, true, true, true, true, true, true, true, true, true, true, true]) (i := 82) rfl (by as_aux_lemma => kernel_rfl) (fun _ _ _ _ h => h) HS ?_
    apply Exists.intro
    apply And.intro
    · refine Or.inl (And.intro (by rfl) ?_)
      rintro w ⟨⟨s0, s1⟩, s2, s3⟩
      go_simp
      try rfl
    simp only [Act.put, List.setIfInBounds_toArray, List.set_cons_succ, List.set_cons_zero]
    refine wpAnyU_takes4 (nd := #[false, false, false, false, false, false, false, false, false, false, false, false, false, false, false, false, false, false, false, false, false, false, false, false, false, false, false, false, false, false, false, false, false, false, false, false, false, false, false, false, false, false, false, false, false, false, false, false, false, false, false, false, false, false, false, false, false, false, false, false, false, false, false, false, false, false, false, false, false, false, false, false, false, false, false, false, false, false, false, false, false, false, false, true, true, true, true, true, true, true, true, true, true]) (i := 83) rfl (by as_aux_lemma => kernel_rfl) (fun _ _ _ _ h => h) HS ?_
    apply Exists.intro
    apply And.intro
    · refine Or.inl (And.intro (by rfl) ?_)
      rintro w ⟨⟨s0, s1⟩, s2, s3⟩
      go_simp
      try rfl
    simp only [Act.put, List.setIfInBounds_toArray, List.set_cons_succ, List.set_cons_zero]
    refine wpAnyT_close (by as_aux_lemma => kernel_rfl) ?_
    clear HS
    refine wpAny_part (k := 84) (n := 2) (f := 7) rfl rfl (by as_aux_lemma => kernel_rfl) ?_
    try simp only [List.drop_succ_cons, List.drop_zero, List.take_succ_cons, List.take_zero]
    go_wp2_with fail
    have HS : LBox z bx x A C1 cA c1 ∧ CBox z bc c B cB := ⟨HXZ, HCZ⟩
    refine wpAny_fork (fun w' => LBox w' bx x A C1 cA c1 ∧ CBox w' bc c B cB) 90 ?_
    refine wpAnyU_takes4 (nd := #[false, false, false, false, false, false, false, false, false, false, false, false, false, false, false, false, false, false, false, false, false, false, false, false, false, false, false, false, false, false, false, false, false, false, false, false, false, false, false, false, false, false, false, false, false, false, false, false, false, false, false, false, false, false, false, false, false, false, false, false, false, false, false, false, false, false, false, false, false, false, false, false, false, false, false, false, false, false, false, false, false, false, false, false, false, false, true, true, false, true, true, true, true]) (i := 86) rfl (by as_aux_lemma => kernel_rfl) (fun _ _ _ _ h => h) HS ?_
    apply Exists.intro
    apply And.intro
    · refine Or.inl (And.intro (by rfl) ?_)
      rintro w ⟨⟨s0, s1, s2, s3⟩, s4, s5⟩
      go_simp
      try rfl
    simp only [Act.put, List.setIfInBounds_toArray, List.set_cons_succ, List.set_cons_zero]
    refine wpAnyU_takes4 (nd := #[false, false, false, false, false, false, false, false, false, false, false, false, false, false, false, false, false, false, false, false, false, false, false, false, false, false, false, false, false, false, false, false, false, false, false, false, false, false, false, false, false, false, false, false, false, false, false, false, false, false, false, false, false, false, false, false, false, false, false, false, false, false, false, false, false, false, false, false, false, false, false, false, false, false, false, false, false, false, false, false, false, false, false, false, false, false, false, false, true, true, true, true, true]) (i := 88) rfl (by as_aux_lemma => kernel_rfl) (fun _ _ _ _ h => h) HS ?_
    apply Exists.intro
    apply And.intro
    · refine Or.inl (And.intro (by rfl) ?_)
      rintro w ⟨⟨s0, s1, s2, s3⟩, s4, s5⟩
      go_simp
      try rfl
    simp only [Act.put, List.setIfInBounds_toArray, List.set_cons_succ, List.set_cons_zero]
    refine wpAnyT_one' (i := 87) (by as_aux_lemma => kernel_rfl) rfl ?_
    go_wp2_with fail
    refine (Ledger_c x A C1 cA c1 z (HXX.out.grow gz) (by omega) (by omega)).mono ?_
    rintro e x2 ⟨⟨AX, CX, cAX, cCX, rfl, hLX, -, -⟩, xb2⟩
    have HX := Lib.hid hLX
    clear hLX
    go_wp2_with fail
    replace HS : LBox x2 bx x A C1 cA c1 ∧ CBox x2 bc c B cB := ⟨HS.1.grow xb2, HS.2.grow xb2⟩
    refine ⟨HS, ?_⟩
    refine wpAnyT_one' (i := 89) (by as_aux_lemma => kernel_rfl) rfl ?_
    go_wp2_with fail
    refine (Count_c c B cB x2 (HRB.out.grow (gz.trans xb2)) (by omega)).mono ?_
    rintro e x3 ⟨⟨B3, c3, rfl, hr3⟩, xb3⟩
    have HRC := Lib.hid hr3
    clear hr3
    go_wp2_with fail
    refine ⟨⟨HS.1.grow xb3, HS.2.grow xb3⟩, ?_⟩
    refine wpAnyT_close (by as_aux_lemma => kernel_rfl) ?_
    refine wpAny_part (k := 90) (n := 3) (f := 0) rfl rfl (by as_aux_lemma => kernel_rfl) ?_
    try simp only [List.drop_succ_cons, List.drop_zero, List.take_succ_cons, List.take_zero]
    go_wp2_with fail
    refine (Prove_c x AX CX B3 cAX cCX c3 c x3 (HX.out.grow xb3) HRC.out (by omega) (by omega) hbl).mono ?_
    rw [HPR.out]
    rintro e w18 ⟨rfl, hb18⟩
    have g18 := gz.trans (xb2.trans (xb3.trans hb18))
    clear HS gz xb2 xb3 hb18 HX HRC HLZ HXZ HCZ HP0Z HP2Z
    go_wp2_with fail
    refine wpAny_done (by as_aux_lemma => kernel_rfl) ?_
    clear z1 z2 z3 z4 hnn hn0
    go_wp2_with fail
    go_meet
    exact ⟨rfl, g18⟩
  case rest =>
    obtain ⟨rfl, g18⟩ := hcut
    clear z1 z2 z3 z4 hnn hn0 s0 s1 s2 s3 t0 t1 t2 t3 r0 r1 p0 p2
    have g19 := g8.trans g18
    replace HR0 := Lib.hid (HR0.out.grow g18)
    replace HR2 := Lib.hid (HR2.out.grow g18)
    replace HR3 := Lib.hid (HR3.out.grow g18)
    replace HR4 := Lib.hid (HR4.out.grow g18)
    replace HR5 := Lib.hid (HR5.out.grow g18)
    clear HR1 HK HXX HRB HP0 HP2
    go_wp2_with fail
    go_loopw [28] (fun v28 wr => ∃ (k : Nat), k ≤ l.gs.length ∧ v28 = .int .i64 k ∧ G wc wr) (fun v28 _ => l.gs.length - (intOf v28).toNat)
    case atStart => exact ⟨0, by omega, rfl, G.refl _⟩
    case round =>
      obtain ⟨k, hk, rfl, hbr⟩ := hrel
      by_cases hlt : k < l.gs.length
      · have hki : (k : Int) < l.gs.length := by omega
        have i0 : k < (boundL x).length := by rw [HB0.out]; exact hlt
        have i2 : k < (clearL x).length := by rw [HC0.out]; exact hlt
        have i3 : k < (dues x c).length := by rw [HD0.out]; exact hlt
        have i4 : k < (shareL (dues x c) n).length := by rw [HS0.out]; exact hlt
        have i5 : k < (leastL x n).length := by rw [HM0.out]; exact hlt
        obtain ⟨b0, o0, rfl, d0, d1⟩ := HR0.out.at i0
        obtain ⟨b2, o2, rfl, d2⟩ := HR2.out.at i2
        obtain ⟨b3, o3, rfl, d3⟩ := HR3.out.at i3
        obtain ⟨b4, o4, rfl, d4⟩ := HR4.out.at i4
        obtain ⟨b5, o5, rfl, d5⟩ := HR5.out.at i5
        have hxk : k < x.gs.length := by rw [HXG.out]; exact hlt
        have hdd := HDU.out k
        have hsm := (leastL_get HA0.out hn2.1 hn2.2 hxk).2.2.1 c HXT.out
        have hown : (dues x c)[k] = owed x c k := by rw [← getD_of i3]; exact dues_getD hxk
        rw [boundL_get HA0.out] at d0 d1
        rw [clearL_get HA0.out] at d2
        rw [hown] at d3
        rw [getD_of i4, getD_of i5] at hsm
        have hvin := verdict_in (dueB x k)
        have hv1 := fun h => verdict_one (r := dueB x k) (n := owed x c k) h hdd.1
        have hv2 := fun h => verdict_two (r := dueB x k) (n := owed x c k) h hdd.2
        have E0 := Lib.hid d0
        have E1 := Lib.hid d1
        have E2 := Lib.hid d2
        have E3 := Lib.hid d3
        have E4 := Lib.hid d4
        have E5 := Lib.hid d5
        clear d0 d1 d2 d3 d4 d5 hown
        generalize verdict (dueB x k) = v at *
        generalize dueB x k = db at *
        generalize owed x c k = d at *
        generalize (shareL (dues x c) n)[k] = sh at *
        generalize (leastL x n)[k] = ls at *
        have q1 : (d < db.1) = False := eq_false (by omega)
        have q2 : decide (d < db.1) = false := decide_eq_false (by omega)
        have q3 : (db.2 < d) = False := eq_false (by omega)
        have q4 : decide (db.2 < d) = false := decide_eq_false (by omega)
        have q5 : (sh < ls) = False := eq_false (by omega)
        have q6 : decide (sh < ls) = false := decide_eq_false (by omega)
        have hIn := fun (z : World) => In_c v 1 3 z
        rw [show inB v 1 3 = true from inB_iff.2 hvin] at hIn
        clear i0 i2 i3 i4 i5 hxk hsm
        clear HR0 HR2 HR3 HR4 HR5 HDU HXT HXC HXK HPR HLV HF7 HA0 HXV
        -- the round's long test, up to the verdict's first question
        go_wp2_with fail
        refine wp_region_A (by as_aux_lemma => kernel_rfl) ?_
        obtain ⟨z, hz⟩ : ∃ z : World, z = { wr with drawn := wr.drawn + 1 } := ⟨_, rfl⟩
        rw [← hz]
        have gz : G wr z := by rw [hz]; exact (G.refl _).drew
        clear hz
        have HS : z.cell? ⟨b0, o0 + k * 2, none⟩ = some (.int .i64 db.1) ∧ z.cell? ⟨b3, o3 + k, none⟩ = some (.int .i64 d) := ⟨gz.cell (hbr.cell E0.out), gz.cell (hbr.cell E3.out)⟩
        refine wpAny_fork (fun w' => w'.cell? ⟨b0, o0 + k * 2, none⟩ = some (.int .i64 db.1) ∧ w'.cell? ⟨b3, o3 + k, none⟩ = some (.int .i64 d)) 9 ?_
        refine wpAnyU_takes4 (nd := #[true, false, true, true, false, false, false, false, false, true, true, true, true, true, true, true, true, true, true, true, true, true, true, true, true, true, true, true, true, true, true, true, true, true, true, true, true, true, true, true, true, true, true, true, true, true, true, true, true, true, true, true, true, true, true, true, true, true, true, true, true, true, true, true, true, true, true, true, true]) (i := 0) rfl (by as_aux_lemma => kernel_rfl) (fun _ _ _ _ h => h) HS ?_
        apply Exists.intro
        apply And.intro
        · refine Or.inl (And.intro (by rfl) ?_)
          rintro w ⟨s0, s1⟩
          go_simp
          try rfl
        simp only [Act.put, List.setIfInBounds_toArray, List.set_cons_succ, List.set_cons_zero]
        refine wpAnyU_takes4 (nd := #[false, true, true, true, false, false, false, false, false, true, true, true, true, true, true, true, true, true, true, true, true, true, true, true, true, true, true, true, true, true, true, true, true, true, true, true, true, true, true, true, true, true, true, true, true, true, true, true, true, true, true, true, true, true, true, true, true, true, true, true, true, true, true, true, true, true, true, true, true]) (i := 1) rfl (by as_aux_lemma => kernel_rfl) (fun _ _ _ _ h => h) HS ?_
        apply Exists.intro
        apply And.intro
        · refine Or.inl (And.intro (by rfl) ?_)
          rintro w ⟨s0, s1⟩
          go_simp
          try rfl
        simp only [Act.put, List.setIfInBounds_toArray, List.set_cons_succ, List.set_cons_zero]
        refine wpAnyU_takes4 (nd := #[false, false, true, true, false, false, false, false, false, true, true, true, true, true, true, true, true, true, true, true, true, true, true, true, true, true, true, true, true, true, true, true, true, true, true, true, true, true, true, true, true, true, true, true, true, true, true, true, true, true, true, true, true, true, true, true, true, true, true, true, true, true, true, true, true, true, true, true, true]) (i := 2) rfl (by as_aux_lemma => kernel_rfl) (fun _ _ _ _ h => h) HS ?_
        apply Exists.intro
        apply And.intro
        · refine Or.inl (And.intro (by rfl) ?_)
          rintro w ⟨s0, s1⟩
          go_simp
          try rfl
        simp only [Act.put, List.setIfInBounds_toArray, List.set_cons_succ, List.set_cons_zero]
        refine wpAnyU_takes4 (nd := #[false, false, false, true, false, false, false, false, false, true, true, true, true, true, true, true, true, true, true, true, true, true, true, true, true, true, true, true, true, true, true, true, true, true, true, true, true, true, true, true, true, true, true, true, true, true, true, true, true, true, true, true, true, true, true, true, true, true, true, true, true, true, true, true, true, true, true, true, true]) (i := 3) rfl (by as_aux_lemma => kernel_rfl) (fun _ _ _ _ h => h) HS ?_
        apply Exists.intro
        apply And.intro
        · refine Or.inl (And.intro (by rfl) ?_)
          rintro w ⟨s0, s1⟩
          go_simp
          try rfl
        simp only [Act.put, List.setIfInBounds_toArray, List.set_cons_succ, List.set_cons_zero]
        refine wpAnyU_takes4 (nd := #[false, false, false, false, true, false, true, true, true, true, true, true, true, true, true, true, true, true, true, true, true, true, true, true, true, true, true, true, true, true, true, true, true, true, true, true, true, true, true, true, true, true, true, true, true, true, true, true, true, true, true, true, true, true, true, true, true, true, true, true, true, true, true, true, true, true, true, true, true]) (i := 4) rfl (by as_aux_lemma => kernel_rfl) (fun _ _ _ _ h => h) HS ?_
        apply Exists.intro
        apply And.intro
        · refine Or.inl (And.intro (by rfl) ?_)
          rintro w ⟨s0, s1⟩
          go_simp
          try rfl
        simp only [Act.put, List.setIfInBounds_toArray, List.set_cons_succ, List.set_cons_zero]
        refine wpAnyU_takes4 (nd := #[false, false, false, false, false, true, true, true, true, true, true, true, true, true, true, true, true, true, true, true, true, true, true, true, true, true, true, true, true, true, true, true, true, true, true, true, true, true, true, true, true, true, true, true, true, true, true, true, true, true, true, true, true, true, true, true, true, true, true, true, true, true, true, true, true, true, true, true, true]) (i := 5) rfl (by as_aux_lemma => kernel_rfl) (fun _ _ _ _ h => h) HS ?_
        apply Exists.intro
        apply And.intro
        · refine Or.inl (And.intro (by rfl) ?_)
          rintro w ⟨s0, s1⟩
          go_simp
          try rfl
        simp only [Act.put, List.setIfInBounds_toArray, List.set_cons_succ, List.set_cons_zero]
        refine wpAnyU_takes4 (nd := #[false, false, false, false, false, false, true, true, true, true, true, true, true, true, true, true, true, true, true, true, true, true, true, true, true, true, true, true, true, true, true, true, true, true, true, true, true, true, true, true, true, true, true, true, true, true, true, true, true, true, true, true, true, true, true, true, true, true, true, true, true, true, true, true, true, true, true, true, true]) (i := 6) rfl (by as_aux_lemma => kernel_rfl) (fun _ _ _ _ h => h) HS ?_
        apply Exists.intro
        apply And.intro
        · refine Or.inl (And.intro (by rfl) ?_)
          rintro w ⟨s0, s1⟩
          go_simp
          try rfl
        simp only [Act.put, List.setIfInBounds_toArray, List.set_cons_succ, List.set_cons_zero]
        refine wpAnyU_takes4 (nd := #[false, false, false, false, false, false, false, true, true, true, true, true, true, true, true, true, true, true, true, true, true, true, true, true, true, true, true, true, true, true, true, true, true, true, true, true, true, true, true, true, true, true, true, true, true, true, true, true, true, true, true, true, true, true, true, true, true, true, true, true, true, true, true, true, true, true, true, true, true]) (i := 7) rfl (by as_aux_lemma => kernel_rfl) (fun _ _ _ _ h => h) HS ?_
        apply Exists.intro
        apply And.intro
        · refine Or.inl (And.intro (by rfl) ?_)
          rintro w ⟨s0, s1⟩
          go_simp
          try rfl
        simp only [Act.put, List.setIfInBounds_toArray, List.set_cons_succ, List.set_cons_zero]
        refine wpAnyU_takes4 (nd := #[false, false, false, false, false, false, false, false, true, true, true, true, true, true, true, true, true, true, true, true, true, true, true, true, true, true, true, true, true, true, true, true, true, true, true, true, true, true, true, true, true, true, true, true, true, true, true, true, true, true, true, true, true, true, true, true, true, true, true, true, true, true, true, true, true, true, true, true, true]) (i := 8) rfl (by as_aux_lemma => kernel_rfl) (fun _ _ _ _ h => h) HS ?_
        apply Exists.intro
        apply And.intro
        · refine Or.inl (And.intro (by rfl) ?_)
          rintro w ⟨s0, s1⟩
          go_simp
          try rfl
        simp only [Act.put, List.setIfInBounds_toArray, List.set_cons_succ, List.set_cons_zero]
        refine wpAnyT_close (by as_aux_lemma => kernel_rfl) ?_
        clear HS
        refine wpAny_part (k := 9) (n := 2) (f := 58) rfl rfl (by as_aux_lemma => kernel_rfl) ?_
        try simp only [List.drop_succ_cons, List.drop_zero, List.take_succ_cons, List.take_zero]
        go_wp2_with fail
        have HS : z.cell? ⟨b0, o0 + k * 2 + 1, none⟩ = some (.int .i64 db.2) ∧ z.cell? ⟨b3, o3 + k, none⟩ = some (.int .i64 d) := ⟨gz.cell (hbr.cell E1.out), gz.cell (hbr.cell E3.out)⟩
        refine wpAny_fork (fun w' => w'.cell? ⟨b0, o0 + k * 2 + 1, none⟩ = some (.int .i64 db.2) ∧ w'.cell? ⟨b3, o3 + k, none⟩ = some (.int .i64 d)) 20 ?_
        refine wpAnyU_takes4 (nd := #[false, false, false, false, false, false, false, false, false, false, false, true, false, true, true, false, false, false, false, false, true, true, true, true, true, true, true, true, true, true, true, true, true, true, true, true, true, true, true, true, true, true, true, true, true, true, true, true, true, true, true, true, true, true, true, true, true, true, true, true, true, true, true, true, true, true, true, true, true]) (i := 11) rfl (by as_aux_lemma => kernel_rfl) (fun _ _ _ _ h => h) HS ?_
        apply Exists.intro
        apply And.intro
        · refine Or.inl (And.intro (by rfl) ?_)
          rintro w ⟨s0, s1⟩
          go_simp
          try rfl
        simp only [Act.put, List.setIfInBounds_toArray, List.set_cons_succ, List.set_cons_zero]
        refine wpAnyU_takes4 (nd := #[false, false, false, false, false, false, false, false, false, false, false, false, true, true, true, false, false, false, false, false, true, true, true, true, true, true, true, true, true, true, true, true, true, true, true, true, true, true, true, true, true, true, true, true, true, true, true, true, true, true, true, true, true, true, true, true, true, true, true, true, true, true, true, true, true, true, true, true, true]) (i := 12) rfl (by as_aux_lemma => kernel_rfl) (fun _ _ _ _ h => h) HS ?_
        apply Exists.intro
        apply And.intro
        · refine Or.inl (And.intro (by rfl) ?_)
          rintro w ⟨s0, s1⟩
          go_simp
          try rfl
        simp only [Act.put, List.setIfInBounds_toArray, List.set_cons_succ, List.set_cons_zero]
        refine wpAnyU_takes4 (nd := #[false, false, false, false, false, false, false, false, false, false, false, false, false, true, true, false, false, false, false, false, true, true, true, true, true, true, true, true, true, true, true, true, true, true, true, true, true, true, true, true, true, true, true, true, true, true, true, true, true, true, true, true, true, true, true, true, true, true, true, true, true, true, true, true, true, true, true, true, true]) (i := 13) rfl (by as_aux_lemma => kernel_rfl) (fun _ _ _ _ h => h) HS ?_
        apply Exists.intro
        apply And.intro
        · refine Or.inl (And.intro (by rfl) ?_)
          rintro w ⟨s0, s1⟩
          go_simp
          try rfl
        simp only [Act.put, List.setIfInBounds_toArray, List.set_cons_succ, List.set_cons_zero]
        refine wpAnyU_takes4 (nd := #[false, false, false, false, false, false, false, false, false, false, false, false, false, false, true, false, false, false, false, false, true, true, true, true, true, true, true, true, true, true, true, true, true, true, true, true, true, true, true, true, true, true, true, true, true, true, true, true, true, true, true, true, true, true, true, true, true, true, true, true, true, true, true, true, true, true, true, true, true]) (i := 14) rfl (by as_aux_lemma => kernel_rfl) (fun _ _ _ _ h => h) HS ?_
        apply Exists.intro
        apply And.intro
        · refine Or.inl (And.intro (by rfl) ?_)
          rintro w ⟨s0, s1⟩
          go_simp
          try rfl
        simp only [Act.put, List.setIfInBounds_toArray, List.set_cons_succ, List.set_cons_zero]
        refine wpAnyU_takes4 (nd := #[false, false, false, false, false, false, false, false, false, false, false, false, false, false, false, true, false, true, true, true, true, true, true, true, true, true, true, true, true, true, true, true, true, true, true, true, true, true, true, true, true, true, true, true, true, true, true, true, true, true, true, true, true, true, true, true, true, true, true, true, true, true, true, true, true, true, true, true, true]) (i := 15) rfl (by as_aux_lemma => kernel_rfl) (fun _ _ _ _ h => h) HS ?_
        apply Exists.intro
        apply And.intro
        · refine Or.inl (And.intro (by rfl) ?_)
          rintro w ⟨s0, s1⟩
          go_simp
          try rfl
        simp only [Act.put, List.setIfInBounds_toArray, List.set_cons_succ, List.set_cons_zero]
        refine wpAnyU_takes4 (nd := #[false, false, false, false, false, false, false, false, false, false, false, false, false, false, false, false, true, true, true, true, true, true, true, true, true, true, true, true, true, true, true, true, true, true, true, true, true, true, true, true, true, true, true, true, true, true, true, true, true, true, true, true, true, true, true, true, true, true, true, true, true, true, true, true, true, true, true, true, true]) (i := 16) rfl (by as_aux_lemma => kernel_rfl) (fun _ _ _ _ h => h) HS ?_
        apply Exists.intro
        apply And.intro
        · refine Or.inl (And.intro (by rfl) ?_)
          rintro w ⟨s0, s1⟩
          go_simp
          try rfl
        simp only [Act.put, List.setIfInBounds_toArray, List.set_cons_succ, List.set_cons_zero]
        refine wpAnyU_takes4 (nd := #[false, false, false, false, false, false, false, false, false, false, false, false, false, false, false, false, false, true, true, true, true, true, true, true, true, true, true, true, true, true, true, true, true, true, true, true, true, true, true, true, true, true, true, true, true, true, true, true, true, true, true, true, true, true, true, true, true, true, true, true, true, true, true, true, true, true, true, true, true]) (i := 17) rfl (by as_aux_lemma => kernel_rfl) (fun _ _ _ _ h => h) HS ?_
        apply Exists.intro
        apply And.intro
        · refine Or.inl (And.intro (by rfl) ?_)
          rintro w ⟨s0, s1⟩
          go_simp
          try rfl
        simp only [Act.put, List.setIfInBounds_toArray, List.set_cons_succ, List.set_cons_zero]
        refine wpAnyU_takes4 (nd := #[false, false, false, false, false, false, false, false, false, false, false, false, false, false, false, false, false, false, true, true, true, true, true, true, true, true, true, true, true, true, true, true, true, true, true, true, true, true, true, true, true, true, true, true, true, true, true, true, true, true, true, true, true, true, true, true, true, true, true, true, true, true, true, true, true, true, true, true, true]) (i := 18) rfl (by as_aux_lemma => kernel_rfl) (fun _ _ _ _ h => h) HS ?_
        apply Exists.intro
        apply And.intro
        · refine Or.inl (And.intro (by rfl) ?_)
          rintro w ⟨s0, s1⟩
          go_simp
          try rfl
        simp only [Act.put, List.setIfInBounds_toArray, List.set_cons_succ, List.set_cons_zero]
        refine wpAnyU_takes4 (nd := #[false, false, false, false, false, false, false, false, false, false, false, false, false, false, false, false, false, false, false, true, true, true, true, true, true, true, true, true, true, true, true, true, true, true, true, true, true, true, true, true, true, true, true, true, true, true, true, true, true, true, true, true, true, true, true, true, true, true, true, true, true, true, true, true, true, true, true, true, true]) (i := 19) rfl (by as_aux_lemma => kernel_rfl) (fun _ _ _ _ h => h) HS ?_
        apply Exists.intro
        apply And.intro
        · refine Or.inl (And.intro (by rfl) ?_)
          rintro w ⟨s0, s1⟩
          go_simp
          try rfl
        simp only [Act.put, List.setIfInBounds_toArray, List.set_cons_succ, List.set_cons_zero]
        refine wpAnyT_close (by as_aux_lemma => kernel_rfl) ?_
        clear HS
        refine wpAny_part (k := 20) (n := 3) (f := 46) rfl rfl (by as_aux_lemma => kernel_rfl) ?_
        try simp only [List.drop_succ_cons, List.drop_zero, List.take_succ_cons, List.take_zero]
        go_wp2_with fail
        have HS : z.cell? ⟨b4, o4 + k, none⟩ = some (.int .i64 sh) ∧ z.cell? ⟨b5, o5 + k, none⟩ = some (.int .i64 ls) := ⟨gz.cell (hbr.cell E4.out), gz.cell (hbr.cell E5.out)⟩
        refine wpAny_fork (fun w' => w'.cell? ⟨b4, o4 + k, none⟩ = some (.int .i64 sh) ∧ w'.cell? ⟨b5, o5 + k, none⟩ = some (.int .i64 ls)) 31 ?_
        refine wpAnyU_takes4 (nd := #[false, false, false, false, false, false, false, false, false, false, false, false, false, false, false, false, false, false, false, false, false, false, false, true, false, true, true, false, false, false, false, true, true, true, true, true, true, true, true, true, true, true, true, true, true, true, true, true, true, true, true, true, true, true, true, true, true, true, true, true, true, true, true, true, true, true, true, true, true]) (i := 23) rfl (by as_aux_lemma => kernel_rfl) (fun _ _ _ _ h => h) HS ?_
        apply Exists.intro
        apply And.intro
        · refine Or.inl (And.intro (by rfl) ?_)
          rintro w ⟨s0, s1⟩
          go_simp
          try rfl
        simp only [Act.put, List.setIfInBounds_toArray, List.set_cons_succ, List.set_cons_zero]
        refine wpAnyU_takes4 (nd := #[false, false, false, false, false, false, false, false, false, false, false, false, false, false, false, false, false, false, false, false, false, false, false, false, true, true, true, false, false, false, false, true, true, true, true, true, true, true, true, true, true, true, true, true, true, true, true, true, true, true, true, true, true, true, true, true, true, true, true, true, true, true, true, true, true, true, true, true, true]) (i := 24) rfl (by as_aux_lemma => kernel_rfl) (fun _ _ _ _ h => h) HS ?_
        apply Exists.intro
        apply And.intro
        · refine Or.inl (And.intro (by rfl) ?_)
          rintro w ⟨s0, s1⟩
          go_simp
          try rfl
        simp only [Act.put, List.setIfInBounds_toArray, List.set_cons_succ, List.set_cons_zero]
        refine wpAnyU_takes4 (nd := #[false, false, false, false, false, false, false, false, false, false, false, false, false, false, false, false, false, false, false, false, false, false, false, false, false, true, true, false, false, false, false, true, true, true, true, true, true, true, true, true, true, true, true, true, true, true, true, true, true, true, true, true, true, true, true, true, true, true, true, true, true, true, true, true, true, true, true, true, true]) (i := 25) rfl (by as_aux_lemma => kernel_rfl) (fun _ _ _ _ h => h) HS ?_
        apply Exists.intro
        apply And.intro
        · refine Or.inl (And.intro (by rfl) ?_)
          rintro w ⟨s0, s1⟩
          go_simp
          try rfl
        simp only [Act.put, List.setIfInBounds_toArray, List.set_cons_succ, List.set_cons_zero]
        refine wpAnyU_takes4 (nd := #[false, false, false, false, false, false, false, false, false, false, false, false, false, false, false, false, false, false, false, false, false, false, false, false, false, false, true, false, false, false, false, true, true, true, true, true, true, true, true, true, true, true, true, true, true, true, true, true, true, true, true, true, true, true, true, true, true, true, true, true, true, true, true, true, true, true, true, true, true]) (i := 26) rfl (by as_aux_lemma => kernel_rfl) (fun _ _ _ _ h => h) HS ?_
        apply Exists.intro
        apply And.intro
        · refine Or.inl (And.intro (by rfl) ?_)
          rintro w ⟨s0, s1⟩
          go_simp
          try rfl
        simp only [Act.put, List.setIfInBounds_toArray, List.set_cons_succ, List.set_cons_zero]
        refine wpAnyU_takes4 (nd := #[false, false, false, false, false, false, false, false, false, false, false, false, false, false, false, false, false, false, false, false, false, false, false, false, false, false, false, true, false, true, true, true, true, true, true, true, true, true, true, true, true, true, true, true, true, true, true, true, true, true, true, true, true, true, true, true, true, true, true, true, true, true, true, true, true, true, true, true, true]) (i := 27) rfl (by as_aux_lemma => kernel_rfl) (fun _ _ _ _ h => h) HS ?_
        apply Exists.intro
        apply And.intro
        · refine Or.inl (And.intro (by rfl) ?_)
          rintro w ⟨s0, s1⟩
          go_simp
          try rfl
        simp only [Act.put, List.setIfInBounds_toArray, List.set_cons_succ, List.set_cons_zero]
        refine wpAnyU_takes4 (nd := #[false, false, false, false, false, false, false, false, false, false, false, false, false, false, false, false, false, false, false, false, false, false, false, false, false, false, false, false, true, true, true, true, true, true, true, true, true, true, true, true, true, true, true, true, true, true, true, true, true, true, true, true, true, true, true, true, true, true, true, true, true, true, true, true, true, true, true, true, true]) (i := 28) rfl (by as_aux_lemma => kernel_rfl) (fun _ _ _ _ h => h) HS ?_
        apply Exists.intro
        apply And.intro
        · refine Or.inl (And.intro (by rfl) ?_)
          rintro w ⟨s0, s1⟩
          go_simp
          try rfl
        simp only [Act.put, List.setIfInBounds_toArray, List.set_cons_succ, List.set_cons_zero]
        refine wpAnyU_takes4 (nd := #[false, false, false, false, false, false, false, false, false, false, false, false, false, false, false, false, false, false, false, false, false, false, false, false, false, false, false, false, false, true, true, true, true, true, true, true, true, true, true, true, true, true, true, true, true, true, true, true, true, true, true, true, true, true, true, true, true, true, true, true, true, true, true, true, true, true, true, true, true]) (i := 29) rfl (by as_aux_lemma => kernel_rfl) (fun _ _ _ _ h => h) HS ?_
        apply Exists.intro
        apply And.intro
        · refine Or.inl (And.intro (by rfl) ?_)
          rintro w ⟨s0, s1⟩
          go_simp
          try rfl
        simp only [Act.put, List.setIfInBounds_toArray, List.set_cons_succ, List.set_cons_zero]
        refine wpAnyU_takes4 (nd := #[false, false, false, false, false, false, false, false, false, false, false, false, false, false, false, false, false, false, false, false, false, false, false, false, false, false, false, false, false, false, true, true, true, true, true, true, true, true, true, true, true, true, true, true, true, true, true, true, true, true, true, true, true, true, true, true, true, true, true, true, true, true, true, true, true, true, true, true, true]) (i := 30) rfl (by as_aux_lemma => kernel_rfl) (fun _ _ _ _ h => h) HS ?_
        apply Exists.intro
        apply And.intro
        · refine Or.inl (And.intro (by rfl) ?_)
          rintro w ⟨s0, s1⟩
          go_simp
          try rfl
        simp only [Act.put, List.setIfInBounds_toArray, List.set_cons_succ, List.set_cons_zero]
        refine wpAnyT_close (by as_aux_lemma => kernel_rfl) ?_
        clear HS
        refine wpAny_part (k := 31) (n := 3) (f := 35) rfl rfl (by as_aux_lemma => kernel_rfl) ?_
        try simp only [List.drop_succ_cons, List.drop_zero, List.take_succ_cons, List.take_zero]
        go_wp2_with fail
        have HS : z.cell? ⟨b2, o2 + k, none⟩ = some (.int .i64 v) := gz.cell (hbr.cell E2.out)
        refine wpAny_fork (fun w' => w'.cell? ⟨b2, o2 + k, none⟩ = some (.int .i64 v)) 38 ?_
        refine wpAnyU_takes4 (nd := #[false, false, false, false, false, false, false, false, false, false, false, false, false, false, false, false, false, false, false, false, false, false, false, false, false, false, false, false, false, false, false, false, false, false, true, false, true, true, true, true, true, true, true, true, true, true, true, true, true, true, true, true, true, true, true, true, true, true, true, true, true, true, true, true, true, true, true, true, true]) (i := 34) rfl (by as_aux_lemma => kernel_rfl) (fun _ _ _ _ h => h) HS ?_
        apply Exists.intro
        apply And.intro
        · refine Or.inl (And.intro (by rfl) ?_)
          rintro w s0
          go_simp
          try rfl
        simp only [Act.put, List.setIfInBounds_toArray, List.set_cons_succ, List.set_cons_zero]
        refine wpAnyU_takes4 (nd := #[false, false, false, false, false, false, false, false, false, false, false, false, false, false, false, false, false, false, false, false, false, false, false, false, false, false, false, false, false, false, false, false, false, false, false, true, true, true, true, true, true, true, true, true, true, true, true, true, true, true, true, true, true, true, true, true, true, true, true, true, true, true, true, true, true, true, true, true, true]) (i := 35) rfl (by as_aux_lemma => kernel_rfl) (fun _ _ _ _ h => h) HS ?_
        apply Exists.intro
        apply And.intro
        · refine Or.inl (And.intro (by rfl) ?_)
          rintro w s0
          go_simp
          try rfl
        simp only [Act.put, List.setIfInBounds_toArray, List.set_cons_succ, List.set_cons_zero]
        refine wpAnyU_takes4 (nd := #[false, false, false, false, false, false, false, false, false, false, false, false, false, false, false, false, false, false, false, false, false, false, false, false, false, false, false, false, false, false, false, false, false, false, false, false, true, true, true, true, true, true, true, true, true, true, true, true, true, true, true, true, true, true, true, true, true, true, true, true, true, true, true, true, true, true, true, true, true]) (i := 36) rfl (by as_aux_lemma => kernel_rfl) (fun _ _ _ _ h => h) HS ?_
        apply Exists.intro
        apply And.intro
        · refine Or.inl (And.intro (by rfl) ?_)
          rintro w s0
          go_simp
          try rfl
        simp only [Act.put, List.setIfInBounds_toArray, List.set_cons_succ, List.set_cons_zero]
        refine wpAnyU_takes4 (nd := #[false, false, false, false, false, false, false, false, false, false, false, false, false, false, false, false, false, false, false, false, false, false, false, false, false, false, false, false, false, false, false, false, false, false, false, false, false, true, true, true, true, true, true, true, true, true, true, true, true, true, true, true, true, true, true, true, true, true, true, true, true, true, true, true, true, true, true, true, true]) (i := 37) rfl (by as_aux_lemma => kernel_rfl) (fun _ _ _ _ h => h) HS ?_
        apply Exists.intro
        apply And.intro
        · refine Or.inl (And.intro (by rfl) ?_)
          rintro w s0
          go_simp
          try rfl
        simp only [Act.put, List.setIfInBounds_toArray, List.set_cons_succ, List.set_cons_zero]
        refine wpAnyT_close (by as_aux_lemma => kernel_rfl) ?_
        clear HS
        refine wpAny_part (k := 38) (n := 4) (f := 27) rfl rfl (by as_aux_lemma => kernel_rfl) ?_
        try simp only [List.drop_succ_cons, List.drop_zero, List.take_succ_cons, List.take_zero]
        go_wp2_with fail
        refine (hIn z).mono ?_
        rintro e w1 ⟨rfl, rfl⟩
        go_wp2_with fail
        have HS : z.cell? ⟨b2, o2 + k, none⟩ = some (.int .i64 v) := gz.cell (hbr.cell E2.out)
        refine wpAny_fork (fun w' => w'.cell? ⟨b2, o2 + k, none⟩ = some (.int .i64 v)) 46 ?_
        refine wpAnyU_takes4 (nd := #[false, false, false, false, false, false, false, false, false, false, false, false, false, false, false, false, false, false, false, false, false, false, false, false, false, false, false, false, false, false, false, false, false, false, false, false, false, false, false, false, false, false, true, false, true, true, true, true, true, true, true, true, true, true, true, true, true, true, true, true, true, true, true, true, true, true, true, true, true]) (i := 42) rfl (by as_aux_lemma => kernel_rfl) (fun _ _ _ _ h => h) HS ?_
        apply Exists.intro
        apply And.intro
        · refine Or.inl (And.intro (by rfl) ?_)
          rintro w s0
          go_simp
          try rfl
        simp only [Act.put, List.setIfInBounds_toArray, List.set_cons_succ, List.set_cons_zero]
        refine wpAnyU_takes4 (nd := #[false, false, false, false, false, false, false, false, false, false, false, false, false, false, false, false, false, false, false, false, false, false, false, false, false, false, false, false, false, false, false, false, false, false, false, false, false, false, false, false, false, false, false, true, true, true, true, true, true, true, true, true, true, true, true, true, true, true, true, true, true, true, true, true, true, true, true, true, true]) (i := 43) rfl (by as_aux_lemma => kernel_rfl) (fun _ _ _ _ h => h) HS ?_
        apply Exists.intro
        apply And.intro
        · refine Or.inl (And.intro (by rfl) ?_)
          rintro w s0
          go_simp
          try rfl
        simp only [Act.put, List.setIfInBounds_toArray, List.set_cons_succ, List.set_cons_zero]
        refine wpAnyU_takes4 (nd := #[false, false, false, false, false, false, false, false, false, false, false, false, false, false, false, false, false, false, false, false, false, false, false, false, false, false, false, false, false, false, false, false, false, false, false, false, false, false, false, false, false, false, false, false, true, true, true, true, true, true, true, true, true, true, true, true, true, true, true, true, true, true, true, true, true, true, true, true, true]) (i := 44) rfl (by as_aux_lemma => kernel_rfl) (fun _ _ _ _ h => h) HS ?_
        apply Exists.intro
        apply And.intro
        · refine Or.inl (And.intro (by rfl) ?_)
          rintro w s0
          go_simp
          try rfl
        simp only [Act.put, List.setIfInBounds_toArray, List.set_cons_succ, List.set_cons_zero]
        refine wpAnyU_takes4 (nd := #[false, false, false, false, false, false, false, false, false, false, false, false, false, false, false, false, false, false, false, false, false, false, false, false, false, false, false, false, false, false, false, false, false, false, false, false, false, false, false, false, false, false, false, false, false, true, true, true, true, true, true, true, true, true, true, true, true, true, true, true, true, true, true, true, true, true, true, true, true]) (i := 45) rfl (by as_aux_lemma => kernel_rfl) (fun _ _ _ _ h => h) HS ?_
        apply Exists.intro
        apply And.intro
        · refine Or.inl (And.intro (by rfl) ?_)
          rintro w s0
          go_simp
          try rfl
        simp only [Act.put, List.setIfInBounds_toArray, List.set_cons_succ, List.set_cons_zero]
        refine wpAnyT_close (by as_aux_lemma => kernel_rfl) ?_
        clear HS
        rcases (show v = 1 ∨ v = 2 ∨ v = 3 by omega) with hv | hv | hv
        · as_aux_lemma =>
           have hd0 := hv1 hv
           subst hv
           clear hv1 hv2 hvin hdd
           have j1 : (d < 0) = False := eq_false (by omega)
           have j2 : decide (d < 0) = false := decide_eq_false (by omega)
           have k1 : ((1 : Int) == 1) = true := by decide
           have k2 : ((1 : Int) == 2) = false := by decide
           clear hd0
           refine wpAny_part (k := 46) (n := 2) (f := 21) rfl rfl (by as_aux_lemma => kernel_rfl) ?_
           try simp only [List.drop_succ_cons, List.drop_zero, List.take_succ_cons, List.take_zero]
           go_wp2_with fail
           have HS : z.cell? ⟨b3, o3 + k, none⟩ = some (.int .i64 d) := gz.cell (hbr.cell E3.out)
           refine wpAny_fork (fun w' => w'.cell? ⟨b3, o3 + k, none⟩ = some (.int .i64 d)) 52 ?_
           refine wpAnyU_takes4 (nd := #[false, false, false, false, false, false, false, false, false, false, false, false, false, false, false, false, false, false, false, false, false, false, false, false, false, false, false, false, false, false, false, false, false, false, false, false, false, false, false, false, false, false, false, false, false, false, false, false, true, false, true, true, true, true, true, true, true, true, true, true, true, true, true, true, true, true, true, true, true]) (i := 48) rfl (by as_aux_lemma => kernel_rfl) (fun _ _ _ _ h => h) HS ?_
           apply Exists.intro
           apply And.intro
           · refine Or.inl (And.intro (by rfl) ?_)
             rintro w s0
             go_simp
             try rfl
           simp only [Act.put, List.setIfInBounds_toArray, List.set_cons_succ, List.set_cons_zero]
           refine wpAnyU_takes4 (nd := #[false, false, false, false, false, false, false, false, false, false, false, false, false, false, false, false, false, false, false, false, false, false, false, false, false, false, false, false, false, false, false, false, false, false, false, false, false, false, false, false, false, false, false, false, false, false, false, false, false, true, true, true, true, true, true, true, true, true, true, true, true, true, true, true, true, true, true, true, true]) (i := 49) rfl (by as_aux_lemma => kernel_rfl) (fun _ _ _ _ h => h) HS ?_
           apply Exists.intro
           apply And.intro
           · refine Or.inl (And.intro (by rfl) ?_)
             rintro w s0
             go_simp
             try rfl
           simp only [Act.put, List.setIfInBounds_toArray, List.set_cons_succ, List.set_cons_zero]
           refine wpAnyU_takes4 (nd := #[false, false, false, false, false, false, false, false, false, false, false, false, false, false, false, false, false, false, false, false, false, false, false, false, false, false, false, false, false, false, false, false, false, false, false, false, false, false, false, false, false, false, false, false, false, false, false, false, false, false, true, true, true, true, true, true, true, true, true, true, true, true, true, true, true, true, true, true, true]) (i := 50) rfl (by as_aux_lemma => kernel_rfl) (fun _ _ _ _ h => h) HS ?_
           apply Exists.intro
           apply And.intro
           · refine Or.inl (And.intro (by rfl) ?_)
             rintro w s0
             go_simp
             try rfl
           simp only [Act.put, List.setIfInBounds_toArray, List.set_cons_succ, List.set_cons_zero]
           refine wpAnyU_takes4 (nd := #[false, false, false, false, false, false, false, false, false, false, false, false, false, false, false, false, false, false, false, false, false, false, false, false, false, false, false, false, false, false, false, false, false, false, false, false, false, false, false, false, false, false, false, false, false, false, false, false, false, false, false, true, true, true, true, true, true, true, true, true, true, true, true, true, true, true, true, true, true]) (i := 51) rfl (by as_aux_lemma => kernel_rfl) (fun _ _ _ _ h => h) HS ?_
           apply Exists.intro
           apply And.intro
           · refine Or.inl (And.intro (by rfl) ?_)
             rintro w s0
             go_simp
             try rfl
           simp only [Act.put, List.setIfInBounds_toArray, List.set_cons_succ, List.set_cons_zero]
           refine wpAnyT_close (by as_aux_lemma => kernel_rfl) ?_
           clear HS
           refine wpAny_part (k := 52) (n := 4) (f := 13) rfl rfl (by as_aux_lemma => kernel_rfl) ?_
           try simp only [List.drop_succ_cons, List.drop_zero, List.take_succ_cons, List.take_zero]
           go_wp2_with fail
           have HS : z.cell? ⟨b2, o2 + k, none⟩ = some (.int .i64 (1 : Int)) := gz.cell (hbr.cell E2.out)
           refine wpAny_fork (fun w' => w'.cell? ⟨b2, o2 + k, none⟩ = some (.int .i64 (1 : Int))) 60 ?_
           refine wpAnyU_takes4 (nd := #[false, false, false, false, false, false, false, false, false, false, false, false, false, false, false, false, false, false, false, false, false, false, false, false, false, false, false, false, false, false, false, false, false, false, false, false, false, false, false, false, false, false, false, false, false, false, false, false, false, false, false, false, false, false, false, false, true, false, true, true, true, true, true, true, true, true, true, true, true]) (i := 56) rfl (by as_aux_lemma => kernel_rfl) (fun _ _ _ _ h => h) HS ?_
           apply Exists.intro
           apply And.intro
           · refine Or.inl (And.intro (by rfl) ?_)
             rintro w s0
             go_simp
             try rfl
           simp only [Act.put, List.setIfInBounds_toArray, List.set_cons_succ, List.set_cons_zero]
           refine wpAnyU_takes4 (nd := #[false, false, false, false, false, false, false, false, false, false, false, false, false, false, false, false, false, false, false, false, false, false, false, false, false, false, false, false, false, false, false, false, false, false, false, false, false, false, false, false, false, false, false, false, false, false, false, false, false, false, false, false, false, false, false, false, false, true, true, true, true, true, true, true, true, true, true, true, true]) (i := 57) rfl (by as_aux_lemma => kernel_rfl) (fun _ _ _ _ h => h) HS ?_
           apply Exists.intro
           apply And.intro
           · refine Or.inl (And.intro (by rfl) ?_)
             rintro w s0
             go_simp
             try rfl
           simp only [Act.put, List.setIfInBounds_toArray, List.set_cons_succ, List.set_cons_zero]
           refine wpAnyU_takes4 (nd := #[false, false, false, false, false, false, false, false, false, false, false, false, false, false, false, false, false, false, false, false, false, false, false, false, false, false, false, false, false, false, false, false, false, false, false, false, false, false, false, false, false, false, false, false, false, false, false, false, false, false, false, false, false, false, false, false, false, false, true, true, true, true, true, true, true, true, true, true, true]) (i := 58) rfl (by as_aux_lemma => kernel_rfl) (fun _ _ _ _ h => h) HS ?_
           apply Exists.intro
           apply And.intro
           · refine Or.inl (And.intro (by rfl) ?_)
             rintro w s0
             go_simp
             try rfl
           simp only [Act.put, List.setIfInBounds_toArray, List.set_cons_succ, List.set_cons_zero]
           refine wpAnyU_takes4 (nd := #[false, false, false, false, false, false, false, false, false, false, false, false, false, false, false, false, false, false, false, false, false, false, false, false, false, false, false, false, false, false, false, false, false, false, false, false, false, false, false, false, false, false, false, false, false, false, false, false, false, false, false, false, false, false, false, false, false, false, false, true, true, true, true, true, true, true, true, true, true]) (i := 59) rfl (by as_aux_lemma => kernel_rfl) (fun _ _ _ _ h => h) HS ?_
           apply Exists.intro
           apply And.intro
           · refine Or.inl (And.intro (by rfl) ?_)
             rintro w s0
             go_simp
             try rfl
           simp only [Act.put, List.setIfInBounds_toArray, List.set_cons_succ, List.set_cons_zero]
           refine wpAnyT_close (by as_aux_lemma => kernel_rfl) ?_
           clear HS
           refine wpAny_part (k := 60) (n := 2) (f := 7) rfl rfl (by as_aux_lemma => kernel_rfl) ?_
           try simp only [List.drop_succ_cons, List.drop_zero, List.take_succ_cons, List.take_zero]
           go_wp2_with fail
           have HS : True := trivial
           refine wpAny_fork (fun _ => True) 67 ?_
           refine wpAnyU_take4 (nd := #[false, false, false, false, false, false, false, false, false, false, false, false, false, false, false, false, false, false, false, false, false, false, false, false, false, false, false, false, false, false, false, false, false, false, false, false, false, false, false, false, false, false, false, false, false, false, false, false, false, false, false, false, false, false, false, false, false, false, false, false, false, false, true, false, true, true, true, true, true]) (i := 62) (v := undef) rfl (by as_aux_lemma => kernel_rfl) (fun _ _ _ h => h) HS (Or.inr ⟨by rfl, rfl⟩) ?_
           simp only [Act.put, List.setIfInBounds_toArray, List.set_cons_succ, List.set_cons_zero]
           refine wpAnyU_take4 (nd := #[false, false, false, false, false, false, false, false, false, false, false, false, false, false, false, false, false, false, false, false, false, false, false, false, false, false, false, false, false, false, false, false, false, false, false, false, false, false, false, false, false, false, false, false, false, false, false, false, false, false, false, false, false, false, false, false, false, false, false, false, false, false, false, true, true, true, true, true, true]) (i := 63) (v := undef) rfl (by as_aux_lemma => kernel_rfl) (fun _ _ _ h => h) HS (Or.inr ⟨by rfl, rfl⟩) ?_
           simp only [Act.put, List.setIfInBounds_toArray, List.set_cons_succ, List.set_cons_zero]
           refine wpAnyU_take4 (nd := #[false, false, false, false, false, false, false, false, false, false, false, false, false, false, false, false, false, false, false, false, false, false, false, false, false, false, false, false, false, false, false, false, false, false, false, false, false, false, false, false, false, false, false, false, false, false, false, false, false, false, false, false, false, false, false, false, false, false, false, false, false, false, false, false, true, true, true, true, true]) (i := 64) (v := undef) rfl (by as_aux_lemma => kernel_rfl) (fun _ _ _ h => h) HS (Or.inr ⟨by rfl, rfl⟩) ?_
           simp only [Act.put, List.setIfInBounds_toArray, List.set_cons_succ, List.set_cons_zero]
           refine wpAnyU_take4 (nd := #[false, false, false, false, false, false, false, false, false, false, false, false, false, false, false, false, false, false, false, false, false, false, false, false, false, false, false, false, false, false, false, false, false, false, false, false, false, false, false, false, false, false, false, false, false, false, false, false, false, false, false, false, false, false, false, false, false, false, false, false, false, false, false, false, false, true, true, true, true]) (i := 65) (v := undef) rfl (by as_aux_lemma => kernel_rfl) (fun _ _ _ h => h) HS (Or.inr ⟨by rfl, rfl⟩) ?_
           simp only [Act.put, List.setIfInBounds_toArray, List.set_cons_succ, List.set_cons_zero]
           refine wpAnyU_take4 (nd := #[false, false, false, false, false, false, false, false, false, false, false, false, false, false, false, false, false, false, false, false, false, false, false, false, false, false, false, false, false, false, false, false, false, false, false, false, false, false, false, false, false, false, false, false, false, false, false, false, false, false, false, false, false, false, false, false, false, false, false, false, false, false, false, false, false, false, true, true, true]) (i := 66) (v := undef) rfl (by as_aux_lemma => kernel_rfl) (fun _ _ _ h => h) HS (Or.inr ⟨by rfl, rfl⟩) ?_
           simp only [Act.put, List.setIfInBounds_toArray, List.set_cons_succ, List.set_cons_zero]
           refine wpAnyT_close (by as_aux_lemma => kernel_rfl) ?_
           clear HS
           refine wpAny_part (k := 67) (n := 2) (f := 0) rfl rfl (by as_aux_lemma => kernel_rfl) ?_
           try simp only [List.drop_succ_cons, List.drop_zero, List.take_succ_cons, List.take_zero]
           go_wp2_with fail
           refine wpAny_done (by as_aux_lemma => kernel_rfl) ?_
           go_wp2_with fail
           go_roundw
           case rel => exact ⟨k + 1, by omega, by go_num, hbr.trans gz⟩
           case measure => simp [intOf] <;> omega
        · as_aux_lemma =>
           have hd0 := hv2 hv
           subst hv
           clear hv1 hv2 hvin hdd
           have j1 : (0 ≤ d) = False := eq_false (by omega)
           have j2 : decide (0 ≤ d) = false := decide_eq_false (by omega)
           have k1 : ((2 : Int) == 1) = false := by decide
           have k2 : ((2 : Int) == 2) = true := by decide
           clear hd0
           refine wpAny_part (k := 46) (n := 2) (f := 21) rfl rfl (by as_aux_lemma => kernel_rfl) ?_
           try simp only [List.drop_succ_cons, List.drop_zero, List.take_succ_cons, List.take_zero]
           go_wp2_with fail
           have HS : True := trivial
           refine wpAny_fork (fun _ => True) 53 ?_
           refine wpAnyU_take4 (nd := #[false, false, false, false, false, false, false, false, false, false, false, false, false, false, false, false, false, false, false, false, false, false, false, false, false, false, false, false, false, false, false, false, false, false, false, false, false, false, false, false, false, false, false, false, false, false, false, false, true, false, true, true, true, true, true, true, true, true, true, true, true, true, true, true, true, true, true, true, true]) (i := 48) (v := undef) rfl (by as_aux_lemma => kernel_rfl) (fun _ _ _ h => h) HS (Or.inr ⟨by rfl, rfl⟩) ?_
           simp only [Act.put, List.setIfInBounds_toArray, List.set_cons_succ, List.set_cons_zero]
           refine wpAnyU_take4 (nd := #[false, false, false, false, false, false, false, false, false, false, false, false, false, false, false, false, false, false, false, false, false, false, false, false, false, false, false, false, false, false, false, false, false, false, false, false, false, false, false, false, false, false, false, false, false, false, false, false, false, true, true, true, true, true, true, true, true, true, true, true, true, true, true, true, true, true, true, true, true]) (i := 49) (v := undef) rfl (by as_aux_lemma => kernel_rfl) (fun _ _ _ h => h) HS (Or.inr ⟨by rfl, rfl⟩) ?_
           simp only [Act.put, List.setIfInBounds_toArray, List.set_cons_succ, List.set_cons_zero]
           refine wpAnyU_take4 (nd := #[false, false, false, false, false, false, false, false, false, false, false, false, false, false, false, false, false, false, false, false, false, false, false, false, false, false, false, false, false, false, false, false, false, false, false, false, false, false, false, false, false, false, false, false, false, false, false, false, false, false, true, true, true, true, true, true, true, true, true, true, true, true, true, true, true, true, true, true, true]) (i := 50) (v := undef) rfl (by as_aux_lemma => kernel_rfl) (fun _ _ _ h => h) HS (Or.inr ⟨by rfl, rfl⟩) ?_
           simp only [Act.put, List.setIfInBounds_toArray, List.set_cons_succ, List.set_cons_zero]
           refine wpAnyU_take4 (nd := #[false, false, false, false, false, false, false, false, false, false, false, false, false, false, false, false, false, false, false, false, false, false, false, false, false, false, false, false, false, false, false, false, false, false, false, false, false, false, false, false, false, false, false, false, false, false, false, false, false, false, false, true, true, true, true, true, true, true, true, true, true, true, true, true, true, true, true, true, true]) (i := 51) (v := undef) rfl (by as_aux_lemma => kernel_rfl) (fun _ _ _ h => h) HS (Or.inr ⟨by rfl, rfl⟩) ?_
           simp only [Act.put, List.setIfInBounds_toArray, List.set_cons_succ, List.set_cons_zero]
           refine wpAnyU_take4 (nd := #[false, false, false, false, false, false, false, false, false, false, false, false, false, false, false, false, false, false, false, false, false, false, false, false, false, false, false, false, false, false, false, false, false, false, false, false, false, false, false, false, false, false, false, false, false, false, false, false, false, false, false, false, true, true, true, true, true, true, true, true, true, true, true, true, true, true, true, true, true]) (i := 52) (v := undef) rfl (by as_aux_lemma => kernel_rfl) (fun _ _ _ h => h) HS (Or.inr ⟨by rfl, rfl⟩) ?_
           simp only [Act.put, List.setIfInBounds_toArray, List.set_cons_succ, List.set_cons_zero]
           refine wpAnyT_close (by as_aux_lemma => kernel_rfl) ?_
           clear HS
           refine wpAny_part (k := 53) (n := 3) (f := 13) rfl rfl (by as_aux_lemma => kernel_rfl) ?_
           try simp only [List.drop_succ_cons, List.drop_zero, List.take_succ_cons, List.take_zero]
           go_wp2_with fail
           have HS : z.cell? ⟨b2, o2 + k, none⟩ = some (.int .i64 (2 : Int)) := gz.cell (hbr.cell E2.out)
           refine wpAny_fork (fun w' => w'.cell? ⟨b2, o2 + k, none⟩ = some (.int .i64 (2 : Int))) 60 ?_
           refine wpAnyU_takes4 (nd := #[false, false, false, false, false, false, false, false, false, false, false, false, false, false, false, false, false, false, false, false, false, false, false, false, false, false, false, false, false, false, false, false, false, false, false, false, false, false, false, false, false, false, false, false, false, false, false, false, false, false, false, false, false, false, false, false, true, false, true, true, true, true, true, true, true, true, true, true, true]) (i := 56) rfl (by as_aux_lemma => kernel_rfl) (fun _ _ _ _ h => h) HS ?_
           apply Exists.intro
           apply And.intro
           · refine Or.inl (And.intro (by rfl) ?_)
             rintro w s0
             go_simp
             try rfl
           simp only [Act.put, List.setIfInBounds_toArray, List.set_cons_succ, List.set_cons_zero]
           refine wpAnyU_takes4 (nd := #[false, false, false, false, false, false, false, false, false, false, false, false, false, false, false, false, false, false, false, false, false, false, false, false, false, false, false, false, false, false, false, false, false, false, false, false, false, false, false, false, false, false, false, false, false, false, false, false, false, false, false, false, false, false, false, false, false, true, true, true, true, true, true, true, true, true, true, true, true]) (i := 57) rfl (by as_aux_lemma => kernel_rfl) (fun _ _ _ _ h => h) HS ?_
           apply Exists.intro
           apply And.intro
           · refine Or.inl (And.intro (by rfl) ?_)
             rintro w s0
             go_simp
             try rfl
           simp only [Act.put, List.setIfInBounds_toArray, List.set_cons_succ, List.set_cons_zero]
           refine wpAnyU_takes4 (nd := #[false, false, false, false, false, false, false, false, false, false, false, false, false, false, false, false, false, false, false, false, false, false, false, false, false, false, false, false, false, false, false, false, false, false, false, false, false, false, false, false, false, false, false, false, false, false, false, false, false, false, false, false, false, false, false, false, false, false, true, true, true, true, true, true, true, true, true, true, true]) (i := 58) rfl (by as_aux_lemma => kernel_rfl) (fun _ _ _ _ h => h) HS ?_
           apply Exists.intro
           apply And.intro
           · refine Or.inl (And.intro (by rfl) ?_)
             rintro w s0
             go_simp
             try rfl
           simp only [Act.put, List.setIfInBounds_toArray, List.set_cons_succ, List.set_cons_zero]
           refine wpAnyU_takes4 (nd := #[false, false, false, false, false, false, false, false, false, false, false, false, false, false, false, false, false, false, false, false, false, false, false, false, false, false, false, false, false, false, false, false, false, false, false, false, false, false, false, false, false, false, false, false, false, false, false, false, false, false, false, false, false, false, false, false, false, false, false, true, true, true, true, true, true, true, true, true, true]) (i := 59) rfl (by as_aux_lemma => kernel_rfl) (fun _ _ _ _ h => h) HS ?_
           apply Exists.intro
           apply And.intro
           · refine Or.inl (And.intro (by rfl) ?_)
             rintro w s0
             go_simp
             try rfl
           simp only [Act.put, List.setIfInBounds_toArray, List.set_cons_succ, List.set_cons_zero]
           refine wpAnyT_close (by as_aux_lemma => kernel_rfl) ?_
           clear HS
           refine wpAny_part (k := 60) (n := 2) (f := 7) rfl rfl (by as_aux_lemma => kernel_rfl) ?_
           try simp only [List.drop_succ_cons, List.drop_zero, List.take_succ_cons, List.take_zero]
           go_wp2_with fail
           have HS : z.cell? ⟨b3, o3 + k, none⟩ = some (.int .i64 d) := gz.cell (hbr.cell E3.out)
           refine wpAny_fork (fun w' => w'.cell? ⟨b3, o3 + k, none⟩ = some (.int .i64 d)) 66 ?_
           refine wpAnyU_takes4 (nd := #[false, false, false, false, false, false, false, false, false, false, false, false, false, false, false, false, false, false, false, false, false, false, false, false, false, false, false, false, false, false, false, false, false, false, false, false, false, false, false, false, false, false, false, false, false, false, false, false, false, false, false, false, false, false, false, false, false, false, false, false, false, false, true, false, true, true, true, true, true]) (i := 62) rfl (by as_aux_lemma => kernel_rfl) (fun _ _ _ _ h => h) HS ?_
           apply Exists.intro
           apply And.intro
           · refine Or.inl (And.intro (by rfl) ?_)
             rintro w s0
             go_simp
             try rfl
           simp only [Act.put, List.setIfInBounds_toArray, List.set_cons_succ, List.set_cons_zero]
           refine wpAnyU_takes4 (nd := #[false, false, false, false, false, false, false, false, false, false, false, false, false, false, false, false, false, false, false, false, false, false, false, false, false, false, false, false, false, false, false, false, false, false, false, false, false, false, false, false, false, false, false, false, false, false, false, false, false, false, false, false, false, false, false, false, false, false, false, false, false, false, false, true, true, true, true, true, true]) (i := 63) rfl (by as_aux_lemma => kernel_rfl) (fun _ _ _ _ h => h) HS ?_
           apply Exists.intro
           apply And.intro
           · refine Or.inl (And.intro (by rfl) ?_)
             rintro w s0
             go_simp
             try rfl
           simp only [Act.put, List.setIfInBounds_toArray, List.set_cons_succ, List.set_cons_zero]
           refine wpAnyU_takes4 (nd := #[false, false, false, false, false, false, false, false, false, false, false, false, false, false, false, false, false, false, false, false, false, false, false, false, false, false, false, false, false, false, false, false, false, false, false, false, false, false, false, false, false, false, false, false, false, false, false, false, false, false, false, false, false, false, false, false, false, false, false, false, false, false, false, false, true, true, true, true, true]) (i := 64) rfl (by as_aux_lemma => kernel_rfl) (fun _ _ _ _ h => h) HS ?_
           apply Exists.intro
           apply And.intro
           · refine Or.inl (And.intro (by rfl) ?_)
             rintro w s0
             go_simp
             try rfl
           simp only [Act.put, List.setIfInBounds_toArray, List.set_cons_succ, List.set_cons_zero]
           refine wpAnyU_takes4 (nd := #[false, false, false, false, false, false, false, false, false, false, false, false, false, false, false, false, false, false, false, false, false, false, false, false, false, false, false, false, false, false, false, false, false, false, false, false, false, false, false, false, false, false, false, false, false, false, false, false, false, false, false, false, false, false, false, false, false, false, false, false, false, false, false, false, false, true, true, true, true]) (i := 65) rfl (by as_aux_lemma => kernel_rfl) (fun _ _ _ _ h => h) HS ?_
           apply Exists.intro
           apply And.intro
           · refine Or.inl (And.intro (by rfl) ?_)
             rintro w s0
             go_simp
             try rfl
           simp only [Act.put, List.setIfInBounds_toArray, List.set_cons_succ, List.set_cons_zero]
           refine wpAnyT_close (by as_aux_lemma => kernel_rfl) ?_
           clear HS
           refine wpAny_part (k := 66) (n := 3) (f := 0) rfl rfl (by as_aux_lemma => kernel_rfl) ?_
           try simp only [List.drop_succ_cons, List.drop_zero, List.take_succ_cons, List.take_zero]
           go_wp2_with fail
           refine wpAny_done (by as_aux_lemma => kernel_rfl) ?_
           go_wp2_with fail
           go_roundw
           case rel => exact ⟨k + 1, by omega, by go_num, hbr.trans gz⟩
           case measure => simp [intOf] <;> omega
        · as_aux_lemma =>
           subst hv
           clear hv1 hv2 hvin hdd
           have k1 : ((3 : Int) == 1) = false := by decide
           have k2 : ((3 : Int) == 2) = false := by decide
           refine wpAny_part (k := 46) (n := 2) (f := 21) rfl rfl (by as_aux_lemma => kernel_rfl) ?_
           try simp only [List.drop_succ_cons, List.drop_zero, List.take_succ_cons, List.take_zero]
           go_wp2_with fail
           have HS : True := trivial
           refine wpAny_fork (fun _ => True) 53 ?_
           refine wpAnyU_take4 (nd := #[false, false, false, false, false, false, false, false, false, false, false, false, false, false, false, false, false, false, false, false, false, false, false, false, false, false, false, false, false, false, false, false, false, false, false, false, false, false, false, false, false, false, false, false, false, false, false, false, true, false, true, true, true, true, true, true, true, true, true, true, true, true, true, true, true, true, true, true, true]) (i := 48) (v := undef) rfl (by as_aux_lemma => kernel_rfl) (fun _ _ _ h => h) HS (Or.inr ⟨by rfl, rfl⟩) ?_
           simp only [Act.put, List.setIfInBounds_toArray, List.set_cons_succ, List.set_cons_zero]
           refine wpAnyU_take4 (nd := #[false, false, false, false, false, false, false, false, false, false, false, false, false, false, false, false, false, false, false, false, false, false, false, false, false, false, false, false, false, false, false, false, false, false, false, false, false, false, false, false, false, false, false, false, false, false, false, false, false, true, true, true, true, true, true, true, true, true, true, true, true, true, true, true, true, true, true, true, true]) (i := 49) (v := undef) rfl (by as_aux_lemma => kernel_rfl) (fun _ _ _ h => h) HS (Or.inr ⟨by rfl, rfl⟩) ?_
           simp only [Act.put, List.setIfInBounds_toArray, List.set_cons_succ, List.set_cons_zero]
           refine wpAnyU_take4 (nd := #[false, false, false, false, false, false, false, false, false, false, false, false, false, false, false, false, false, false, false, false, false, false, false, false, false, false, false, false, false, false, false, false, false, false, false, false, false, false, false, false, false, false, false, false, false, false, false, false, false, false, true, true, true, true, true, true, true, true, true, true, true, true, true, true, true, true, true, true, true]) (i := 50) (v := undef) rfl (by as_aux_lemma => kernel_rfl) (fun _ _ _ h => h) HS (Or.inr ⟨by rfl, rfl⟩) ?_
           simp only [Act.put, List.setIfInBounds_toArray, List.set_cons_succ, List.set_cons_zero]
           refine wpAnyU_take4 (nd := #[false, false, false, false, false, false, false, false, false, false, false, false, false, false, false, false, false, false, false, false, false, false, false, false, false, false, false, false, false, false, false, false, false, false, false, false, false, false, false, false, false, false, false, false, false, false, false, false, false, false, false, true, true, true, true, true, true, true, true, true, true, true, true, true, true, true, true, true, true]) (i := 51) (v := undef) rfl (by as_aux_lemma => kernel_rfl) (fun _ _ _ h => h) HS (Or.inr ⟨by rfl, rfl⟩) ?_
           simp only [Act.put, List.setIfInBounds_toArray, List.set_cons_succ, List.set_cons_zero]
           refine wpAnyU_take4 (nd := #[false, false, false, false, false, false, false, false, false, false, false, false, false, false, false, false, false, false, false, false, false, false, false, false, false, false, false, false, false, false, false, false, false, false, false, false, false, false, false, false, false, false, false, false, false, false, false, false, false, false, false, false, true, true, true, true, true, true, true, true, true, true, true, true, true, true, true, true, true]) (i := 52) (v := undef) rfl (by as_aux_lemma => kernel_rfl) (fun _ _ _ h => h) HS (Or.inr ⟨by rfl, rfl⟩) ?_
           simp only [Act.put, List.setIfInBounds_toArray, List.set_cons_succ, List.set_cons_zero]
           refine wpAnyT_close (by as_aux_lemma => kernel_rfl) ?_
           clear HS
           refine wpAny_part (k := 53) (n := 3) (f := 13) rfl rfl (by as_aux_lemma => kernel_rfl) ?_
           try simp only [List.drop_succ_cons, List.drop_zero, List.take_succ_cons, List.take_zero]
           go_wp2_with fail
           have HS : z.cell? ⟨b2, o2 + k, none⟩ = some (.int .i64 (3 : Int)) := gz.cell (hbr.cell E2.out)
           refine wpAny_fork (fun w' => w'.cell? ⟨b2, o2 + k, none⟩ = some (.int .i64 (3 : Int))) 60 ?_
           refine wpAnyU_takes4 (nd := #[false, false, false, false, false, false, false, false, false, false, false, false, false, false, false, false, false, false, false, false, false, false, false, false, false, false, false, false, false, false, false, false, false, false, false, false, false, false, false, false, false, false, false, false, false, false, false, false, false, false, false, false, false, false, false, false, true, false, true, true, true, true, true, true, true, true, true, true, true]) (i := 56) rfl (by as_aux_lemma => kernel_rfl) (fun _ _ _ _ h => h) HS ?_
           apply Exists.intro
           apply And.intro
           · refine Or.inl (And.intro (by rfl) ?_)
             rintro w s0
             go_simp
             try rfl
           simp only [Act.put, List.setIfInBounds_toArray, List.set_cons_succ, List.set_cons_zero]
           refine wpAnyU_takes4 (nd := #[false, false, false, false, false, false, false, false, false, false, false, false, false, false, false, false, false, false, false, false, false, false, false, false, false, false, false, false, false, false, false, false, false, false, false, false, false, false, false, false, false, false, false, false, false, false, false, false, false, false, false, false, false, false, false, false, false, true, true, true, true, true, true, true, true, true, true, true, true]) (i := 57) rfl (by as_aux_lemma => kernel_rfl) (fun _ _ _ _ h => h) HS ?_
           apply Exists.intro
           apply And.intro
           · refine Or.inl (And.intro (by rfl) ?_)
             rintro w s0
             go_simp
             try rfl
           simp only [Act.put, List.setIfInBounds_toArray, List.set_cons_succ, List.set_cons_zero]
           refine wpAnyU_takes4 (nd := #[false, false, false, false, false, false, false, false, false, false, false, false, false, false, false, false, false, false, false, false, false, false, false, false, false, false, false, false, false, false, false, false, false, false, false, false, false, false, false, false, false, false, false, false, false, false, false, false, false, false, false, false, false, false, false, false, false, false, true, true, true, true, true, true, true, true, true, true, true]) (i := 58) rfl (by as_aux_lemma => kernel_rfl) (fun _ _ _ _ h => h) HS ?_
           apply Exists.intro
           apply And.intro
           · refine Or.inl (And.intro (by rfl) ?_)
             rintro w s0
             go_simp
             try rfl
           simp only [Act.put, List.setIfInBounds_toArray, List.set_cons_succ, List.set_cons_zero]
           refine wpAnyU_takes4 (nd := #[false, false, false, false, false, false, false, false, false, false, false, false, false, false, false, false, false, false, false, false, false, false, false, false, false, false, false, false, false, false, false, false, false, false, false, false, false, false, false, false, false, false, false, false, false, false, false, false, false, false, false, false, false, false, false, false, false, false, false, true, true, true, true, true, true, true, true, true, true]) (i := 59) rfl (by as_aux_lemma => kernel_rfl) (fun _ _ _ _ h => h) HS ?_
           apply Exists.intro
           apply And.intro
           · refine Or.inl (And.intro (by rfl) ?_)
             rintro w s0
             go_simp
             try rfl
           simp only [Act.put, List.setIfInBounds_toArray, List.set_cons_succ, List.set_cons_zero]
           refine wpAnyT_close (by as_aux_lemma => kernel_rfl) ?_
           clear HS
           refine wpAny_part (k := 60) (n := 2) (f := 7) rfl rfl (by as_aux_lemma => kernel_rfl) ?_
           try simp only [List.drop_succ_cons, List.drop_zero, List.take_succ_cons, List.take_zero]
           go_wp2_with fail
           have HS : True := trivial
           refine wpAny_fork (fun _ => True) 67 ?_
           refine wpAnyU_take4 (nd := #[false, false, false, false, false, false, false, false, false, false, false, false, false, false, false, false, false, false, false, false, false, false, false, false, false, false, false, false, false, false, false, false, false, false, false, false, false, false, false, false, false, false, false, false, false, false, false, false, false, false, false, false, false, false, false, false, false, false, false, false, false, false, true, false, true, true, true, true, true]) (i := 62) (v := undef) rfl (by as_aux_lemma => kernel_rfl) (fun _ _ _ h => h) HS (Or.inr ⟨by rfl, rfl⟩) ?_
           simp only [Act.put, List.setIfInBounds_toArray, List.set_cons_succ, List.set_cons_zero]
           refine wpAnyU_take4 (nd := #[false, false, false, false, false, false, false, false, false, false, false, false, false, false, false, false, false, false, false, false, false, false, false, false, false, false, false, false, false, false, false, false, false, false, false, false, false, false, false, false, false, false, false, false, false, false, false, false, false, false, false, false, false, false, false, false, false, false, false, false, false, false, false, true, true, true, true, true, true]) (i := 63) (v := undef) rfl (by as_aux_lemma => kernel_rfl) (fun _ _ _ h => h) HS (Or.inr ⟨by rfl, rfl⟩) ?_
           simp only [Act.put, List.setIfInBounds_toArray, List.set_cons_succ, List.set_cons_zero]
           refine wpAnyU_take4 (nd := #[false, false, false, false, false, false, false, false, false, false, false, false, false, false, false, false, false, false, false, false, false, false, false, false, false, false, false, false, false, false, false, false, false, false, false, false, false, false, false, false, false, false, false, false, false, false, false, false, false, false, false, false, false, false, false, false, false, false, false, false, false, false, false, false, true, true, true, true, true]) (i := 64) (v := undef) rfl (by as_aux_lemma => kernel_rfl) (fun _ _ _ h => h) HS (Or.inr ⟨by rfl, rfl⟩) ?_
           simp only [Act.put, List.setIfInBounds_toArray, List.set_cons_succ, List.set_cons_zero]
           refine wpAnyU_take4 (nd := #[false, false, false, false, false, false, false, false, false, false, false, false, false, false, false, false, false, false, false, false, false, false, false, false, false, false, false, false, false, false, false, false, false, false, false, false, false, false, false, false, false, false, false, false, false, false, false, false, false, false, false, false, false, false, false, false, false, false, false, false, false, false, false, false, false, true, true, true, true]) (i := 65) (v := undef) rfl (by as_aux_lemma => kernel_rfl) (fun _ _ _ h => h) HS (Or.inr ⟨by rfl, rfl⟩) ?_
           simp only [Act.put, List.setIfInBounds_toArray, List.set_cons_succ, List.set_cons_zero]
           refine wpAnyU_take4 (nd := #[false, false, false, false, false, false, false, false, false, false, false, false, false, false, false, false, false, false, false, false, false, false, false, false, false, false, false, false, false, false, false, false, false, false, false, false, false, false, false, false, false, false, false, false, false, false, false, false, false, false, false, false, false, false, false, false, false, false, false, false, false, false, false, false, false, false, true, true, true]) (i := 66) (v := undef) rfl (by as_aux_lemma => kernel_rfl) (fun _ _ _ h => h) HS (Or.inr ⟨by rfl, rfl⟩) ?_
           simp only [Act.put, List.setIfInBounds_toArray, List.set_cons_succ, List.set_cons_zero]
           refine wpAnyT_close (by as_aux_lemma => kernel_rfl) ?_
           clear HS
           refine wpAny_part (k := 67) (n := 2) (f := 0) rfl rfl (by as_aux_lemma => kernel_rfl) ?_
           try simp only [List.drop_succ_cons, List.drop_zero, List.take_succ_cons, List.take_zero]
           go_wp2_with fail
           refine wpAny_done (by as_aux_lemma => kernel_rfl) ?_
           go_wp2_with fail
           go_roundw
           case rel => exact ⟨k + 1, by omega, by go_num, hbr.trans gz⟩
           case measure => simp [intOf] <;> omega
      · have g20 := g19.trans hbr
        go_wp2_with fail
        refine (awake_c wr).mono ?_
        rintro e w99 ⟨rfl, hb99⟩
        go_wp2_with fail
        go_ret
        exact ⟨rfl, (g20).trans hb99⟩
end Go.Proofs.Ytogdhkecpjndlaa.C
