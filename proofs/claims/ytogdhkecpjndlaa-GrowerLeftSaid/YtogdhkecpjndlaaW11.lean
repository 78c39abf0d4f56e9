/- The law GrowerLeft, walked. -/
import Derived.Test.YtogdhkecpjndlaaU2
set_option linter.unusedSimpArgs false
set_option linter.unusedVariables false
namespace Go.Proofs.Ytogdhkecpjndlaa.C
open Go.RowKit
set_option maxRecDepth 100000


def orN (xs : List Int) : Nat := xs.foldl (fun a x => a ||| 2 ^ x.toNat) 0
theorem orN_take {xs : List Int} {k : Nat} (h : k < xs.length) : orN (xs.take (k + 1)) = orN (xs.take k) ||| 2 ^ (xs[k].toNat) := by
  unfold orN
  rw [List.take_succ_eq_append_getElem h, List.foldl_append]
  rfl
theorem orN_bits : ∀ b : Fin 32, orN (bitsL b.val) = b.val := by decide +kernel
theorem bitsL_in : ∀ (n : Fin 6) (b : Fin 32), b.val < 2 ^ n.val → ∀ x ∈ bitsL b.val, 0 ≤ x ∧ x < (n.val : Int) := by decide +kernel
theorem bitsL_inc : ∀ b : Fin 32, (bitsL b.val).Pairwise (fun x y => x < y) := by decide +kernel
theorem notB_lt {n b : Nat} (hn : n ≤ 5) : 2 ^ n - (b + 1) < 64 := by
  have : 2 ^ n ≤ 2 ^ 5 := Nat.pow_le_pow_right (by omega) hn
  omega
theorem askErr_B {l : Led} (hV : Valid l) (b : Nat) : askErr (someL l (2 ^ l.cs.length - (b + 1))) true = if anyB l b = true then 0 else 11 := askErr_any (someL_valid hV _)

set_option maxHeartbeats 8000000 in
theorem GrowerLeft_c {l : Led} {A C : Option Addr} {cA cC : Nat} {a : Int} {w : World} (hL : LedR w l A C) (ha : (Lit.int .u8 a).wf = true) :
    Calls Try.prog 13 #[ledV l A C cA cC, .int .u8 a] w fun e w' => e = .returned (.bool true) ∧ G w w' := by
  have HL := Lib.hid hL
  have ha2 : 0 ≤ a ∧ a ≤ 255 := by simpa [Lit.wf, IntKind.min, IntKind.max, IntKind.signed, IntKind.bits] using ha
  clear hL ha
  obtain ⟨t, rfl⟩ : ∃ t : Nat, a = t := ⟨a.toNat, by omega⟩
  have hw1 : IntKind.i64.wrap (t : Int) = t := IntWalk.i64_in _ (by omega)
  have ht : t < 256 := by omega
  clear ha2
  cases hr : readyB l
  · go_enter Try.func13, Try.ntmps13
    go_wp2_with fail
    have hB : G w (w.alloc (.cells #[.int .i64 l.lo, .int .i64 l.hi, .slice A l.gs.length cA, .slice C l.cs.length cC] 27)) := (G.refl _).alloc _
    generalize w.alloc _ = W at *
    refine (ready_c (HL.out.grow hB)).mono ?_
    rw [hr]
    rintro e w1 ⟨rfl, hb1⟩
    clear hr
    go_wp2_with fail
    refine (awake_c w1).mono ?_
    rintro e w2 ⟨rfl, hb2⟩
    go_wp2_with fail
    go_ret
    exact ⟨rfl, hB.trans (hb1.trans hb2)⟩
  obtain ⟨hg, hc, hf, hV⟩ := readyB_iff hr
  have HV := Lib.hid hV
  have HF := Lib.hid hf
  have hng := hV.ng
  have hnc := hV.nc
  clear hf hV
  go_enter Try.func13, Try.ntmps13
  go_wp2_with fail
  have hB : G w (w.alloc (.cells #[.int .i64 l.lo, .int .i64 l.hi, .slice A l.gs.length cA, .slice C l.cs.length cC] 27)) := (G.refl _).alloc _
  have k0 := LBox.one (w := w) (l := l) (A := A) (C := C) (cA := cA) (cC := cC)
  generalize w.alloc _ = W0 at *
  refine (ready_c (HL.out.grow hB)).mono ?_
  rw [hr]
  rintro e W ⟨rfl, hb1⟩
  have HK := Lib.hid (k0.grow hb1)
  replace hB := hB.trans hb1
  clear hr hb1 k0
  obtain ⟨s0, s1, s2, s3⟩ := HK.out
  -- Ledger of l A C cA cC (its LedR HL.out.grow hB at the world W), to w2 by hb2; lengths by omega; HX: the new LedR
  go_wp2_with fail
  refine (Ledger_c l A C cA cC W (HL.out.grow hB) (by omega) (by omega)).mono ?_
  rintro e w2 ⟨⟨AX, CX, cAX, cCX, rfl, hLX, hcA, hcC⟩, hb2⟩
  have HX := Lib.hid hLX
  clear hLX
  go_wp2_with fail
  obtain ⟨b, hb, hLv, hany, hmin⟩ := leave_facts HV.out
  have h32 : 2 ^ l.cs.length ≤ 2 ^ 5 := Nat.pow_le_pow_right (by omega) hnc
  have hb32 : b < 32 := by omega
  refine (Leave_c l AX CX cAX cCX w2 HX.out hg hc (fun h => leaveF_some h)).mono ?_
  rw [HF.out, hLv]
  rintro e w3 ⟨⟨v3, rfl, ho3⟩, hb3⟩
  obtain ⟨A3, c3, rfl, -, hr3⟩ := ho3.row
  have HR3 := Lib.hid hr3
  have hb23 := hb2.trans hb3
  -- box kept over hb23; growth hB renewed to g3
  replace HK := Lib.hid (HK.out.grow hb23)
  have g3 := (hB).trans hb23
  clear s0 s1 s2 s3
  obtain ⟨s0, s1, s2, s3⟩ := HK.out
  clear HX hcA hcC hb2 hb3 hb23 hB ho3 hr3
  have HIN := Lib.hid (bitsL_in ⟨l.cs.length, by omega⟩ ⟨b, hb32⟩ hb)
  have HINC := Lib.hid (List.pairwise_iff_getElem.1 (bitsL_inc ⟨b, hb32⟩))
  have HON := Lib.hid (orN_bits ⟨b, hb32⟩)
  have HE1 := Lib.hid (show askErr (someL l (2 ^ l.cs.length - (b + 1))) true = 0 by rw [askErr_B HV.out, if_pos hany])
  have HT := Lib.hid (askErr_B HV.out (t % 2 ^ l.cs.length))
  have htl : t % 2 ^ l.cs.length < 2 ^ l.cs.length := Nat.mod_lt _ (Nat.two_pow_pos _)
  have HMIN := Lib.hid (hmin _ htl)
  have HANY := Lib.hid hany
  have hol6 := bitsL_len b
  have HB2 := Lib.hid hb
  clear hLv hany hmin hb
  go_wp2_with fail
  go_loopw [8, 7] (fun v8 v7 wr => ∃ (k acc : Nat), k ≤ (bitsL b).length ∧ v8 = .int .i64 k ∧ v7 = .int .i64 acc ∧ acc < 32 ∧ Hid (acc = orN ((bitsL b).take k)) ∧ G w3 wr) (fun v8 _ _ => (bitsL b).length - (intOf v8).toNat)
  case atStart => exact ⟨0, 0, by omega, rfl, rfl, by omega, rfl, G.refl _⟩
  case round =>
    obtain ⟨k, acc, hk, rfl, rfl, hacc, HO, hbr⟩ := hrel
    clear s0 s1 s2 s3
    obtain ⟨s0, s1, s2, s3⟩ := HK.out.grow hbr
    by_cases hlt : k < (bitsL b).length
    · obtain ⟨B3, o3, rfl, d3⟩ := HR3.out.at hlt
      have hin := HIN.out _ (List.getElem_mem hlt)
      have e3 := hbr.cell d3
      obtain ⟨x, hx⟩ : ∃ x : Nat, (bitsL b)[k] = x := ⟨(bitsL b)[k].toNat, by omega⟩
      have HOS := Lib.hid (orN_take hlt)
      rw [hx] at HOS hin e3
      have hx5 : x < 5 := by have := hin.2; simp at this; omega
      have hxl : x < l.cs.length := by have := hin.2; simp at this; omega
      have hinb : inB (x : Int) 0 ((l.cs.length : Int) - 1) = true := inB_iff.2 (by omega)
      have HOR := Lib.hid (or_tab ⟨x, hx5⟩ ⟨acc, hacc⟩)
      have HPW := Lib.hid (pow_wrap ⟨x, by omega⟩)
      have hor : acc ||| 2 ^ x < 32 := Nat.or_lt_two_pow (n := 5) hacc (Nat.pow_lt_pow_right (by omega) hx5)
      clear d3
      have hIn := fun (z : World) => In_c (x : Int) 0 ((l.cs.length : Int) - 1) z
      rw [hinb] at hIn
      have hpw := HPW.out
      have hor2 := HOR.out
      have hlw : IntKind.i64.wrap ((l.cs.length : Int) - 1) = (l.cs.length : Int) - 1 := IntWalk.i64_in _ (by omega)
      clear hinb
      by_cases hk0 : k = 0
      · have hk1 : ((0 : Int) < (k : Int)) = False := eq_false (by omega)
        have hk2 : decide ((0 : Int) < (k : Int)) = false := decide_eq_false (by omega)
        have hk3 : ¬ (0 : Int) < (k : Int) := by omega
        have hk4 : decide (0 < k) = false := decide_eq_false (by omega)
        clear hk0
        go_wp2_with fail
        go_quiet ((go_at_call 44; exact quiet_left (hIn _)))
        go_wp2_with fail
        go_roundw
        case rel => exact ⟨k + 1, acc ||| 2 ^ x, by omega, by go_num, by go_num, hor, by rw [Hid, HOS.out, HO]; rfl, hbr.drewN _⟩
        case measure => simp [intOf] <;> omega
      · have hk1 : (0 : Int) < (k : Int) := by omega
        have hk3 : decide ((0 : Int) < (k : Int)) = true := decide_eq_true hk1
        have hk4 : decide (0 < k) = true := decide_eq_true (by omega)
        obtain ⟨y, hy⟩ : ∃ y : Int, (bitsL b)[k - 1] = y := ⟨_, rfl⟩
        have hlt2 : k - 1 < (bitsL b).length := by omega
        obtain ⟨B4, o4, hee, d4⟩ := HR3.out.at hlt2
        cases hee
        have e4 := hbr.cell d4
        have hyx := HINC.out (k - 1) k hlt2 hlt (by omega)
        rw [hx, hy] at hyx
        rw [hy] at e4
        have hyx1 : ((x : Int) ≤ y) = False := eq_false (by omega)
        have hyx2 : decide ((x : Int) ≤ y) = false := decide_eq_false (by omega)
        have hyx3 : ¬ (x : Int) ≤ y := by omega
        have hwk : IntKind.i64.wrap ((k : Int) - 1) = ((k - 1 : Nat) : Int) := by rw [IntWalk.i64_in _ (by omega)]; omega
        clear d4 hk0 hy
        go_wp2_with fail
        go_quiet ((go_at_call 44; exact quiet_left (hIn _)))
        go_wp2_with fail
        go_roundw
        case rel => exact ⟨k + 1, acc ||| 2 ^ x, by omega, by go_num, by go_num, hor, by rw [Hid, HOS.out, HO]; rfl, hbr.drewN _⟩
        case measure => simp [intOf] <;> omega
    · obtain rfl : k = (bitsL b).length := by omega
      obtain rfl : b = acc := by
        have h := HO
        unfold Hid at h
        rw [List.take_length] at h
        rw [h]
        exact HON.out.symm
      have g4 := g3.trans hbr
      replace HK := Lib.hid (HK.out.grow hbr)
      replace HR3 := Lib.hid (HR3.out.grow hbr)
      have hlk : ¬ ((bitsL b).length : Int) < (bitsL b).length := by omega
      clear HO HON HIN HINC hbr g3 hk hlt
      go_wp2_with fail
      refine (FullN_c l.lo l.hi A C l.gs.length l.cs.length cA cC wr hnc).mono ?_
      rintro e w5 ⟨rfl, hb5⟩
      replace HR3 := Lib.hid (HR3.out.grow hb5)
      -- box kept over hb5; growth g4 renewed to g5
      replace HK := Lib.hid (HK.out.grow hb5)
      have g5 := (g4).trans hb5
      clear s0 s1 s2 s3
      obtain ⟨s0, s1, s2, s3⟩ := HK.out
      clear hb5 g4 hlk
      go_wp2_with fail
      rw [and_tab ⟨l.cs.length, by omega⟩ ⟨t, ht⟩]
      generalize t % 2 ^ l.cs.length = tb at *
      have HB3 := HB2.out
      -- the ledger without the claims of b (HB3: it is below all sets), from the world w5 grown by g5; to w6; error by HE1.out; growth g6
      go_wp2_with fail
      refine wp_region_A (by as_aux_lemma => kernel_rfl) ?_
      obtain ⟨z, hz⟩ : ∃ z : World, z = { w5 with drawn := w5.drawn + 1 } := ⟨_, rfl⟩
      rw [← hz]
      have gz : G w5 z := by rw [hz]; exact (G.refl _).drew
      clear hz
      have HS : LBox z w.heap.size l A C cA cC := HK.out.grow gz
      have gz1 := (g5).trans gz
      clear s0 s1 s2 s3
      refine wpAny_fork (fun w' => LBox w' w.heap.size l A C cA cC) 5 ?_
      refine wpAnyU_takes' (i := 0) rfl (by as_aux_lemma => kernel_rfl) (fun _ _ _ _ h => h) HS ?_
      apply Exists.intro
      apply And.intro
      · refine Or.inl (And.intro (by rfl) ?_)
        rintro w ⟨s0, s1, s2, s3⟩
        go_simp
        try rfl
      simp only [Act.put, List.setIfInBounds_toArray, List.set_cons_succ, List.set_cons_zero]
      refine wpAnyU_takes' (i := 1) rfl (by as_aux_lemma => kernel_rfl) (fun _ _ _ _ h => h) HS ?_
      apply Exists.intro
      apply And.intro
      · refine Or.inl (And.intro (by rfl) ?_)
        rintro w ⟨s0, s1, s2, s3⟩
        go_simp
        try rfl
      simp only [Act.put, List.setIfInBounds_toArray, List.set_cons_succ, List.set_cons_zero]
      refine wpAnyU_takes' (i := 3) rfl (by as_aux_lemma => kernel_rfl) (fun _ _ _ _ h => h) HS ?_
      apply Exists.intro
      apply And.intro
      · refine Or.inl (And.intro (by rfl) ?_)
        rintro w ⟨s0, s1, s2, s3⟩
        go_simp
        try rfl
      simp only [Act.put, List.setIfInBounds_toArray, List.set_cons_succ, List.set_cons_zero]
      refine wpAnyT_one' (i := 2) (by as_aux_lemma => kernel_rfl) rfl ?_
      go_wp2_with fail
      refine (FullN_c l.lo l.hi A C l.gs.length l.cs.length cA cC z hnc).mono ?_
      rintro e z1 ⟨rfl, hb1⟩
      go_wp2_with fail
      refine ⟨HS.grow hb1, ?_⟩
      refine wpAnyT_one' (i := 4) (by as_aux_lemma => kernel_rfl) rfl ?_
      go_wp2_with fail
      refine ⟨HS.grow hb1, ?_⟩
      refine wpAnyT_close (by as_aux_lemma => kernel_rfl) ?_
      refine wpAny_part (k := 5) (n := 4) (f := 4) rfl rfl (by as_aux_lemma => kernel_rfl) ?_
      simp only [List.drop_succ_cons, List.drop_zero, List.take_succ_cons, List.take_zero]
      go_wp2_with fail
      rw [andNot_tab ⟨l.cs.length, by omega⟩ ⟨b, by omega⟩ HB3]
      have gz2 := gz1.trans hb1
      have hnb : 2 ^ l.cs.length - (b + 1) < 64 := by omega
      -- some of l by bits (2 ^ l.cs.length - (b + 1)) at world z1 grown by gz2; to z2, then the ledger to z3, then Full to w6
      refine (some_c (b := (2 ^ l.cs.length - (b + 1))) (cA := cA) (cC := cC) (HL.out.grow gz2) (by omega) (by omega)).mono ?_
      rintro e z2 ⟨⟨C1, cC1, rfl, hL1⟩, hs1⟩
      have HL1 := Lib.hid hL1
      clear hL1
      have hsl := someL_cs l (2 ^ l.cs.length - (b + 1))
      go_wp2_with fail
      refine (Ledger_c (someL l (2 ^ l.cs.length - (b + 1))) A C1 cA cC1 z2 HL1.out (by rw [someL_gs]; omega) (by omega)).mono ?_
      rintro e z3 ⟨⟨A2, C2, cA2, cC2, rfl, hL2, -, -⟩, hs2⟩
      have HL2 := Lib.hid hL2
      clear hL2
      go_wp2_with fail
      refine (Full_c (someL l (2 ^ l.cs.length - (b + 1))) A2 C2 cA2 cC2 z3 HL2.out (by rw [someL_gs]; omega) (by omega)).mono ?_
      rintro e w6 ⟨rfl, hs3⟩
      clear HL1 HL2 hsl
      rw [HE1.out]
      have hgz := gz.trans (hb1.trans (hs1.trans (hs2.trans hs3)))
      have g6 := (g5).trans hgz
      replace HK := Lib.hid (HK.out.grow hgz)
      replace HR3 := Lib.hid (HR3.out.grow hgz)
      clear hs1 hs2 hs3 gz gz1 gz2 hb1 HS hgz hnb
      have HS : True := trivial
      go_wp2_with fail
      refine wpAny_fork (fun _ => True) 12 ?_
      refine wpAnyU_takes' (i := 9) rfl (by as_aux_lemma => kernel_rfl) (fun _ _ _ _ h => h) HS ?_
      apply Exists.intro
      apply And.intro
      · refine Or.inl (And.intro (by rfl) ?_)
        rintro w s0
        go_simp
        try rfl
      simp only [Act.put, List.setIfInBounds_toArray, List.set_cons_succ, List.set_cons_zero]
      refine wpAnyU_takes' (i := 10) rfl (by as_aux_lemma => kernel_rfl) (fun _ _ _ _ h => h) HS ?_
      apply Exists.intro
      apply And.intro
      · refine Or.inl (And.intro (by rfl) ?_)
        rintro w s0
        go_simp
        try rfl
      simp only [Act.put, List.setIfInBounds_toArray, List.set_cons_succ, List.set_cons_zero]
      refine wpAnyU_takes' (i := 11) rfl (by as_aux_lemma => kernel_rfl) (fun _ _ _ _ h => h) HS ?_
      apply Exists.intro
      apply And.intro
      · refine Or.inl (And.intro (by rfl) ?_)
        rintro w s0
        go_simp
        try rfl
      simp only [Act.put, List.setIfInBounds_toArray, List.set_cons_succ, List.set_cons_zero]
      refine wpAnyT_close (by as_aux_lemma => kernel_rfl) ?_
      refine wpAny_part (k := 12) (n := 1) (f := 0) rfl rfl (by as_aux_lemma => kernel_rfl) ?_
      simp only [List.drop_succ_cons, List.drop_zero, List.take_succ_cons, List.take_zero]
      go_wp2_with fail
      refine wpAny_done (by as_aux_lemma => kernel_rfl) ?_
      clear HS
      obtain ⟨s0, s1, s2, s3⟩ := HK.out
      cases hat : anyB l tb with
      | false =>
        have HTE := Lib.hid (show askErr (someL l (2 ^ l.cs.length - (tb + 1))) true = 11 by rw [HT.out, hat]; rfl)
        clear hat
        -- the ledger without the claims of tb (htl: it is below all sets), from the world w6 grown by g6; to w7; error by HTE.out; growth g7
        go_wp2_with fail
        refine wp_region_A (by as_aux_lemma => kernel_rfl) ?_
        obtain ⟨z, hz⟩ : ∃ z : World, z = { w6 with drawn := w6.drawn + 1 } := ⟨_, rfl⟩
        rw [← hz]
        have gz : G w6 z := by rw [hz]; exact (G.refl _).drew
        clear hz
        have HS : LBox z w.heap.size l A C cA cC := HK.out.grow gz
        have gz1 := (g6).trans gz
        clear s0 s1 s2 s3
        refine wpAny_fork (fun w' => LBox w' w.heap.size l A C cA cC) 5 ?_
        refine wpAnyU_takes' (i := 0) rfl (by as_aux_lemma => kernel_rfl) (fun _ _ _ _ h => h) HS ?_
        apply Exists.intro
        apply And.intro
        · refine Or.inl (And.intro (by rfl) ?_)
          rintro w ⟨s0, s1, s2, s3⟩
          go_simp
          try rfl
        simp only [Act.put, List.setIfInBounds_toArray, List.set_cons_succ, List.set_cons_zero]
        refine wpAnyU_takes' (i := 1) rfl (by as_aux_lemma => kernel_rfl) (fun _ _ _ _ h => h) HS ?_
        apply Exists.intro
        apply And.intro
        · refine Or.inl (And.intro (by rfl) ?_)
          rintro w ⟨s0, s1, s2, s3⟩
          go_simp
          try rfl
        simp only [Act.put, List.setIfInBounds_toArray, List.set_cons_succ, List.set_cons_zero]
        refine wpAnyU_takes' (i := 3) rfl (by as_aux_lemma => kernel_rfl) (fun _ _ _ _ h => h) HS ?_
        apply Exists.intro
        apply And.intro
        · refine Or.inl (And.intro (by rfl) ?_)
          rintro w ⟨s0, s1, s2, s3⟩
          go_simp
          try rfl
        simp only [Act.put, List.setIfInBounds_toArray, List.set_cons_succ, List.set_cons_zero]
        refine wpAnyT_one' (i := 2) (by as_aux_lemma => kernel_rfl) rfl ?_
        go_wp2_with fail
        refine (FullN_c l.lo l.hi A C l.gs.length l.cs.length cA cC z hnc).mono ?_
        rintro e z1 ⟨rfl, hb1⟩
        go_wp2_with fail
        refine ⟨HS.grow hb1, ?_⟩
        refine wpAnyT_one' (i := 4) (by as_aux_lemma => kernel_rfl) rfl ?_
        go_wp2_with fail
        refine ⟨HS.grow hb1, ?_⟩
        refine wpAnyT_close (by as_aux_lemma => kernel_rfl) ?_
        refine wpAny_part (k := 5) (n := 4) (f := 4) rfl rfl (by as_aux_lemma => kernel_rfl) ?_
        simp only [List.drop_succ_cons, List.drop_zero, List.take_succ_cons, List.take_zero]
        go_wp2_with fail
        rw [andNot_tab ⟨l.cs.length, by omega⟩ ⟨tb, by omega⟩ htl]
        have gz2 := gz1.trans hb1
        have hnb : 2 ^ l.cs.length - (tb + 1) < 64 := by omega
        -- some of l by bits (2 ^ l.cs.length - (tb + 1)) at world z1 grown by gz2; to z2, then the ledger to z3, then Full to w7
        refine (some_c (b := (2 ^ l.cs.length - (tb + 1))) (cA := cA) (cC := cC) (HL.out.grow gz2) (by omega) (by omega)).mono ?_
        rintro e z2 ⟨⟨C1, cC1, rfl, hL1⟩, hs1⟩
        have HL1 := Lib.hid hL1
        clear hL1
        have hsl := someL_cs l (2 ^ l.cs.length - (tb + 1))
        go_wp2_with fail
        refine (Ledger_c (someL l (2 ^ l.cs.length - (tb + 1))) A C1 cA cC1 z2 HL1.out (by rw [someL_gs]; omega) (by omega)).mono ?_
        rintro e z3 ⟨⟨A2, C2, cA2, cC2, rfl, hL2, -, -⟩, hs2⟩
        have HL2 := Lib.hid hL2
        clear hL2
        go_wp2_with fail
        refine (Full_c (someL l (2 ^ l.cs.length - (tb + 1))) A2 C2 cA2 cC2 z3 HL2.out (by rw [someL_gs]; omega) (by omega)).mono ?_
        rintro e w7 ⟨rfl, hs3⟩
        clear HL1 HL2 hsl
        rw [HTE.out]
        have hgz := gz.trans (hb1.trans (hs1.trans (hs2.trans hs3)))
        have g7 := (g6).trans hgz
        replace HK := Lib.hid (HK.out.grow hgz)
        replace HR3 := Lib.hid (HR3.out.grow hgz)
        clear hs1 hs2 hs3 gz gz1 gz2 hb1 HS hgz hnb
        have HS : True := trivial
        go_wp2_with fail
        refine wpAny_fork (fun _ => True) 12 ?_
        refine wpAnyU_takes' (i := 9) rfl (by as_aux_lemma => kernel_rfl) (fun _ _ _ _ h => h) HS ?_
        apply Exists.intro
        apply And.intro
        · refine Or.inl (And.intro (by rfl) ?_)
          rintro w s0
          go_simp
          try rfl
        simp only [Act.put, List.setIfInBounds_toArray, List.set_cons_succ, List.set_cons_zero]
        refine wpAnyU_takes' (i := 10) rfl (by as_aux_lemma => kernel_rfl) (fun _ _ _ _ h => h) HS ?_
        apply Exists.intro
        apply And.intro
        · refine Or.inl (And.intro (by rfl) ?_)
          rintro w s0
          go_simp
          try rfl
        simp only [Act.put, List.setIfInBounds_toArray, List.set_cons_succ, List.set_cons_zero]
        refine wpAnyU_takes' (i := 11) rfl (by as_aux_lemma => kernel_rfl) (fun _ _ _ _ h => h) HS ?_
        apply Exists.intro
        apply And.intro
        · refine Or.inl (And.intro (by rfl) ?_)
          rintro w s0
          go_simp
          try rfl
        simp only [Act.put, List.setIfInBounds_toArray, List.set_cons_succ, List.set_cons_zero]
        refine wpAnyT_close (by as_aux_lemma => kernel_rfl) ?_
        refine wpAny_part (k := 12) (n := 1) (f := 0) rfl rfl (by as_aux_lemma => kernel_rfl) ?_
        simp only [List.drop_succ_cons, List.drop_zero, List.take_succ_cons, List.take_zero]
        go_wp2_with fail
        refine wpAny_done (by as_aux_lemma => kernel_rfl) ?_
        clear HS
        obtain ⟨s0, s1, s2, s3⟩ := HK.out
        go_wp2_with fail
        refine (awake_c w7).mono ?_
        rintro e w99 ⟨rfl, hb99⟩
        go_wp2_with fail
        go_ret
        exact ⟨rfl, (g7).trans hb99⟩
      | true =>
        have HTE := Lib.hid (show askErr (someL l (2 ^ l.cs.length - (tb + 1))) true = 0 by rw [HT.out, hat]; rfl)
        have hsh : shorterB (bitsL tb) (bitsL b) = false := by
          by_cases hbt : tb = b
          · subst hbt
            exact shorter_self hb32
          · exact shorter_not (by omega) hb32 (HMIN.out hat hbt)
        clear hat
        -- the ledger without the claims of tb (htl: it is below all sets), from the world w6 grown by g6; to w7; error by HTE.out; growth g7
        go_wp2_with fail
        refine wp_region_A (by as_aux_lemma => kernel_rfl) ?_
        obtain ⟨z, hz⟩ : ∃ z : World, z = { w6 with drawn := w6.drawn + 1 } := ⟨_, rfl⟩
        rw [← hz]
        have gz : G w6 z := by rw [hz]; exact (G.refl _).drew
        clear hz
        have HS : LBox z w.heap.size l A C cA cC := HK.out.grow gz
        have gz1 := (g6).trans gz
        clear s0 s1 s2 s3
        refine wpAny_fork (fun w' => LBox w' w.heap.size l A C cA cC) 5 ?_
        refine wpAnyU_takes' (i := 0) rfl (by as_aux_lemma => kernel_rfl) (fun _ _ _ _ h => h) HS ?_
        apply Exists.intro
        apply And.intro
        · refine Or.inl (And.intro (by rfl) ?_)
          rintro w ⟨s0, s1, s2, s3⟩
          go_simp
          try rfl
        simp only [Act.put, List.setIfInBounds_toArray, List.set_cons_succ, List.set_cons_zero]
        refine wpAnyU_takes' (i := 1) rfl (by as_aux_lemma => kernel_rfl) (fun _ _ _ _ h => h) HS ?_
        apply Exists.intro
        apply And.intro
        · refine Or.inl (And.intro (by rfl) ?_)
          rintro w ⟨s0, s1, s2, s3⟩
          go_simp
          try rfl
        simp only [Act.put, List.setIfInBounds_toArray, List.set_cons_succ, List.set_cons_zero]
        refine wpAnyU_takes' (i := 3) rfl (by as_aux_lemma => kernel_rfl) (fun _ _ _ _ h => h) HS ?_
        apply Exists.intro
        apply And.intro
        · refine Or.inl (And.intro (by rfl) ?_)
          rintro w ⟨s0, s1, s2, s3⟩
          go_simp
          try rfl
        simp only [Act.put, List.setIfInBounds_toArray, List.set_cons_succ, List.set_cons_zero]
        refine wpAnyT_one' (i := 2) (by as_aux_lemma => kernel_rfl) rfl ?_
        go_wp2_with fail
        refine (FullN_c l.lo l.hi A C l.gs.length l.cs.length cA cC z hnc).mono ?_
        rintro e z1 ⟨rfl, hb1⟩
        go_wp2_with fail
        refine ⟨HS.grow hb1, ?_⟩
        refine wpAnyT_one' (i := 4) (by as_aux_lemma => kernel_rfl) rfl ?_
        go_wp2_with fail
        refine ⟨HS.grow hb1, ?_⟩
        refine wpAnyT_close (by as_aux_lemma => kernel_rfl) ?_
        refine wpAny_part (k := 5) (n := 4) (f := 4) rfl rfl (by as_aux_lemma => kernel_rfl) ?_
        simp only [List.drop_succ_cons, List.drop_zero, List.take_succ_cons, List.take_zero]
        go_wp2_with fail
        rw [andNot_tab ⟨l.cs.length, by omega⟩ ⟨tb, by omega⟩ htl]
        have gz2 := gz1.trans hb1
        have hnb : 2 ^ l.cs.length - (tb + 1) < 64 := by omega
        -- some of l by bits (2 ^ l.cs.length - (tb + 1)) at world z1 grown by gz2; to z2, then the ledger to z3, then Full to w7
        refine (some_c (b := (2 ^ l.cs.length - (tb + 1))) (cA := cA) (cC := cC) (HL.out.grow gz2) (by omega) (by omega)).mono ?_
        rintro e z2 ⟨⟨C1, cC1, rfl, hL1⟩, hs1⟩
        have HL1 := Lib.hid hL1
        clear hL1
        have hsl := someL_cs l (2 ^ l.cs.length - (tb + 1))
        go_wp2_with fail
        refine (Ledger_c (someL l (2 ^ l.cs.length - (tb + 1))) A C1 cA cC1 z2 HL1.out (by rw [someL_gs]; omega) (by omega)).mono ?_
        rintro e z3 ⟨⟨A2, C2, cA2, cC2, rfl, hL2, -, -⟩, hs2⟩
        have HL2 := Lib.hid hL2
        clear hL2
        go_wp2_with fail
        refine (Full_c (someL l (2 ^ l.cs.length - (tb + 1))) A2 C2 cA2 cC2 z3 HL2.out (by rw [someL_gs]; omega) (by omega)).mono ?_
        rintro e w7 ⟨rfl, hs3⟩
        clear HL1 HL2 hsl
        rw [HTE.out]
        have hgz := gz.trans (hb1.trans (hs1.trans (hs2.trans hs3)))
        have g7 := (g6).trans hgz
        replace HK := Lib.hid (HK.out.grow hgz)
        replace HR3 := Lib.hid (HR3.out.grow hgz)
        clear hs1 hs2 hs3 gz gz1 gz2 hb1 HS hgz hnb
        have HS : True := trivial
        go_wp2_with fail
        refine wpAny_fork (fun _ => True) 12 ?_
        refine wpAnyU_takes' (i := 9) rfl (by as_aux_lemma => kernel_rfl) (fun _ _ _ _ h => h) HS ?_
        apply Exists.intro
        apply And.intro
        · refine Or.inl (And.intro (by rfl) ?_)
          rintro w s0
          go_simp
          try rfl
        simp only [Act.put, List.setIfInBounds_toArray, List.set_cons_succ, List.set_cons_zero]
        refine wpAnyU_takes' (i := 10) rfl (by as_aux_lemma => kernel_rfl) (fun _ _ _ _ h => h) HS ?_
        apply Exists.intro
        apply And.intro
        · refine Or.inl (And.intro (by rfl) ?_)
          rintro w s0
          go_simp
          try rfl
        simp only [Act.put, List.setIfInBounds_toArray, List.set_cons_succ, List.set_cons_zero]
        refine wpAnyU_takes' (i := 11) rfl (by as_aux_lemma => kernel_rfl) (fun _ _ _ _ h => h) HS ?_
        apply Exists.intro
        apply And.intro
        · refine Or.inl (And.intro (by rfl) ?_)
          rintro w s0
          go_simp
          try rfl
        simp only [Act.put, List.setIfInBounds_toArray, List.set_cons_succ, List.set_cons_zero]
        refine wpAnyT_close (by as_aux_lemma => kernel_rfl) ?_
        refine wpAny_part (k := 12) (n := 1) (f := 0) rfl rfl (by as_aux_lemma => kernel_rfl) ?_
        simp only [List.drop_succ_cons, List.drop_zero, List.take_succ_cons, List.take_zero]
        go_wp2_with fail
        refine wpAny_done (by as_aux_lemma => kernel_rfl) ?_
        clear HS
        obtain ⟨s0, s1, s2, s3⟩ := HK.out
        go_wp2_with fail
        refine (Bits_c tb w7 (by omega)).mono ?_
        rintro e w8 ⟨⟨v8, rfl, ho8⟩, hb8⟩
        obtain ⟨A8, c8, rfl, -, hr8⟩ := ho8.row
        have HR8 := Lib.hid hr8
        have hl8 := bitsL_len tb
        clear ho8 hr8
        go_wp2_with fail
        refine (Shorter_c HR8.out (HR3.out.grow hb8) (by omega) (by omega)).mono ?_
        rw [hsh]
        rintro e w9 ⟨rfl, hb9⟩
        have g9 := g7.trans (hb8.trans hb9)
        go_wp2_with fail
        refine (awake_c w9).mono ?_
        rintro e w99 ⟨rfl, hb99⟩
        go_wp2_with fail
        go_ret
        exact ⟨rfl, (g9).trans hb99⟩
end Go.Proofs.Ytogdhkecpjndlaa.C
