/- The law GrowerFirst, walked. -/
import Derived.Test.YtogdhkecpjndlaaQ5
set_option linter.unusedSimpArgs false
set_option linter.unusedVariables false
namespace Go.Proofs.Ytogdhkecpjndlaa.C
open Go.RowKit
set_option maxRecDepth 100000


theorem shl1 (k : Fin 6) : wrap64 (wrap64 (2 ^ k.val) - 1) = ((2 ^ k.val - 1 : Nat) : Int) := by revert k; decide +kernel
theorem shl2 (k : Fin 6) : wrap64 (wrap64 (2 * 2 ^ k.val) - 1) = ((2 ^ (k.val + 1) - 1 : Nat) : Int) := by revert k; decide +kernel
theorem pow_lt : ∀ k : Fin 6, 2 ^ (k.val + 1) ≤ 64 := by decide +kernel
theorem someL_gs (l : Led) (b : Nat) : (someL l b).gs = l.gs := rfl
theorem someL_cs (l : Led) (b : Nat) : (someL l b).cs.length ≤ l.cs.length := someC_len b l.cs 0

set_option maxHeartbeats 8000000 in
theorem GrowerFirst_c {l : Led} {A C : Option Addr} {cA cC : Nat} {w : World} (hL : LedR w l A C) :
    Calls Try.prog 7 #[ledV l A C cA cC] w fun e w' => e = .returned (.bool true) ∧ G w w' := by
  have HL := Lib.hid hL
  clear hL
  cases hr : readyB l
  · go_enter Try.func7, Try.ntmps7
    go_wp2_with fail
    have hB : G w (w.alloc (.cells #[.int .i64 l.lo, .int .i64 l.hi, .slice A l.gs.length cA, .slice C l.cs.length cC] 27)) := (G.refl _).alloc _
    generalize w.alloc _ = W at *
    refine (ready_c (HL.out.grow hB)).mono ?_
    rw [hr]
    rintro e w1 ⟨rfl, hb1⟩
    clear hr
    go_wp2_with fail
    refine (awake_c w1).mono ?_
    rintro e w2 ⟨rfl, hb2⟩
    go_wp2_with fail
    go_ret
    exact ⟨rfl, hB.trans (hb1.trans hb2)⟩
  obtain ⟨hg, hc, hf, hV⟩ := readyB_iff hr
  have HV := Lib.hid hV
  have HF := Lib.hid hf
  have hng := hV.ng
  have hnc := hV.nc
  clear hf hV
  go_enter Try.func7, Try.ntmps7
  go_wp2_with fail
  have hB : G w (w.alloc (.cells #[.int .i64 l.lo, .int .i64 l.hi, .slice A l.gs.length cA, .slice C l.cs.length cC] 27)) := (G.refl _).alloc _
  have k0 := LBox.one (w := w) (l := l) (A := A) (C := C) (cA := cA) (cC := cC)
  generalize w.alloc _ = W0 at *
  refine (ready_c (HL.out.grow hB)).mono ?_
  rw [hr]
  rintro e W ⟨rfl, hb1⟩
  have HK := Lib.hid (k0.grow hb1)
  replace hB := hB.trans hb1
  clear hr hb1 k0
  obtain ⟨s0, s1, s2, s3⟩ := HK.out
  -- Ledger of l A C cA cC (its LedR HL.out.grow hB at the world W), to w2 by hb2; lengths by omega; HX: the new LedR
  go_wp2_with fail
  refine (Ledger_c l A C cA cC W (HL.out.grow hB) (by omega) (by omega)).mono ?_
  rintro e w2 ⟨⟨AX, CX, cAX, cCX, rfl, hLX, hcA, hcC⟩, hb2⟩
  have HX := Lib.hid hLX
  clear hLX
  go_wp2_with fail
  refine (First_c l AX CX cAX cCX w2 HX.out hg hc hcC).mono ?_
  rintro e w3 ⟨rfl, hb3⟩
  have hb23 := hb2.trans hb3
  -- box kept over hb23; growth hB renewed to g3
  replace HK := Lib.hid (HK.out.grow hb23)
  have g3 := (hB).trans hb23
  clear s0 s1 s2 s3
  obtain ⟨s0, s1, s2, s3⟩ := HK.out
  clear HX hcA hcC hb2 hb3 hb23 hB
  by_cases he : (firstL l).2 = 0
  · obtain ⟨k, e1, hk, ha, hb⟩ := first_some HV.out he
    rw [he, e1]
    have HA := Lib.hid ha
    have HB := Lib.hid hb
    clear he e1 ha hb
    have hin : inB (k : Int) 0 ((l.cs.length : Int) - 1) = true := inB_iff.2 (by omega)
    go_wp2_with fail
    refine (In_c _ _ _ _).mono ?_
    rw [hin]
    rintro e w4 ⟨rfl, rfl⟩
    clear hin
    go_wp2_with fail
    have hp : 2 ^ (k + 1) ≤ 64 := pow_lt ⟨k, by omega⟩
    have hp0 : 2 ^ k ≤ 2 ^ (k + 1) := Nat.pow_le_pow_right (by omega) (by omega)
    rw [shl1 ⟨k, by omega⟩]
    -- some of l by bits (2 ^ k - 1) at world w3 grown by g3; to w5, then the ledger to w6, then Full to w7
    refine (some_c (b := (2 ^ k - 1)) (cA := cA) (cC := cC) (HL.out.grow g3) (by omega) (by omega)).mono ?_
    rintro e w5 ⟨⟨C1, cC1, rfl, hL1⟩, hs1⟩
    have HL1 := Lib.hid hL1
    clear hL1
    have hsl := someL_cs l (2 ^ k - 1)
    go_wp2_with fail
    refine (Ledger_c (someL l (2 ^ k - 1)) A C1 cA cC1 w5 HL1.out (by rw [someL_gs]; omega) (by omega)).mono ?_
    rintro e w6 ⟨⟨A2, C2, cA2, cC2, rfl, hL2, -, -⟩, hs2⟩
    have HL2 := Lib.hid hL2
    clear hL2
    go_wp2_with fail
    refine (Full_c (someL l (2 ^ k - 1)) A2 C2 cA2 cC2 w6 HL2.out (by rw [someL_gs]; omega) (by omega)).mono ?_
    rintro e w7 ⟨rfl, hs3⟩
    clear HL1 HL2 hsl
    rw [HA.out]
    have hb37 := hs1.trans (hs2.trans hs3)
    -- box kept over hb37; growth g3 renewed to g7
    replace HK := Lib.hid (HK.out.grow hb37)
    have g7 := (g3).trans hb37
    clear s0 s1 s2 s3
    obtain ⟨s0, s1, s2, s3⟩ := HK.out
    clear hs1 hs2 hs3 hb37 g3
    go_wp2_with fail
    rw [shl2 ⟨k, by omega⟩]
    -- some of l by bits (2 ^ (k + 1) - 1) at world w7 grown by g7; to w8, then the ledger to w9, then Full to w10
    refine (some_c (b := (2 ^ (k + 1) - 1)) (cA := cA) (cC := cC) (HL.out.grow g7) (by omega) (by omega)).mono ?_
    rintro e w8 ⟨⟨C1, cC1, rfl, hL1⟩, hs1⟩
    have HL1 := Lib.hid hL1
    clear hL1
    have hsl := someL_cs l (2 ^ (k + 1) - 1)
    go_wp2_with fail
    refine (Ledger_c (someL l (2 ^ (k + 1) - 1)) A C1 cA cC1 w8 HL1.out (by rw [someL_gs]; omega) (by omega)).mono ?_
    rintro e w9 ⟨⟨A2, C2, cA2, cC2, rfl, hL2, -, -⟩, hs2⟩
    have HL2 := Lib.hid hL2
    clear hL2
    go_wp2_with fail
    refine (Full_c (someL l (2 ^ (k + 1) - 1)) A2 C2 cA2 cC2 w9 HL2.out (by rw [someL_gs]; omega) (by omega)).mono ?_
    rintro e w10 ⟨rfl, hs3⟩
    clear HL1 HL2 hsl
    rw [HB.out]
    have g10 := g7.trans (hs1.trans (hs2.trans hs3))
    go_wp2_with fail
    refine (awake_c w10).mono ?_
    rintro e w99 ⟨rfl, hb99⟩
    go_wp2_with fail
    go_ret
    exact ⟨rfl, (g10).trans hb99⟩
  · obtain ⟨h7, h0⟩ := first_none HV.out he
    rw [h7]
    clear he h7
    go_wp2_with fail
    -- Ledger of l A C cA cC (its LedR HL.out.grow g3 at the world w3), to w4 by hb4; lengths by omega; HX: the new LedR
    go_wp2_with fail
    refine (Ledger_c l A C cA cC w3 (HL.out.grow g3) (by omega) (by omega)).mono ?_
    rintro e w4 ⟨⟨AX, CX, cAX, cCX, rfl, hLX, hcA, hcC⟩, hb4⟩
    have HX := Lib.hid hLX
    clear hLX
    go_wp2_with fail
    refine (Full_c l AX CX cAX cCX w4 HX.out hg hc).mono ?_
    rintro e w5 ⟨rfl, hb5⟩
    rw [h0]
    have hb45 := hb4.trans hb5
    -- box kept over hb45; growth g3 renewed to g5
    replace HK := Lib.hid (HK.out.grow hb45)
    have g5 := (g3).trans hb45
    clear s0 s1 s2 s3
    obtain ⟨s0, s1, s2, s3⟩ := HK.out
    go_wp2_with fail
    refine (awake_c w5).mono ?_
    rintro e w99 ⟨rfl, hb99⟩
    go_wp2_with fail
    go_ret
    exact ⟨rfl, (g5).trans hb99⟩
end Go.Proofs.Ytogdhkecpjndlaa.C
