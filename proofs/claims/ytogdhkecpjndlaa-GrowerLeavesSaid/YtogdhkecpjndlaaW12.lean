/- The law GrowerLeaves, walked. -/
import Derived.Test.YtogdhkecpjndlaaU2
set_option linter.unusedSimpArgs false
set_option linter.unusedVariables false
namespace Go.Proofs.Ytogdhkecpjndlaa.C
open Go.RowKit
set_option maxRecDepth 100000

theorem first_no2 {l : Led} (hV : Valid l) (h : (firstL l).2 ≠ 0) : firstL l = (0, 7) := by
  unfold firstL at h ⊢
  rw [if_pos (fault_of hV)] at h ⊢
  exact firstG_no _ (firstG_none _ h).2

set_option maxHeartbeats 8000000 in
theorem GrowerLeaves_c {l : Led} {A C : Option Addr} {cA cC : Nat} {w : World} (hL : LedR w l A C) :
    Calls Try.prog 20 #[ledV l A C cA cC] w fun e w' => e = .returned (.bool true) ∧ G w w' := by
  have HL := Lib.hid hL
  clear hL
  cases ht : thin l
  · go_enter Try.func20, Try.ntmps20
    go_wp2_with fail
    have hB : G w (w.alloc (.cells (cells4 l A C cA cC) 27)) := (G.refl _).alloc _
    generalize w.alloc _ = W at *
    refine (Thin_c l A C cA cC W).mono ?_
    rw [ht]
    rintro e w1 ⟨rfl, hb1⟩
    clear ht
    go_wp2_with fail
    refine (awake_c w1).mono ?_
    rintro e w2 ⟨rfl, hb2⟩
    go_wp2_with fail
    go_ret
    exact ⟨rfl, hB.trans (hb1.trans hb2)⟩
  have hthin : l.gs.length ≤ 30 ∧ l.cs.length ≤ 30 := by simpa [thin] using ht
  obtain ⟨hg, hc⟩ := hthin
  go_enter Try.func20, Try.ntmps20
  go_wp2_with fail
  have k0 := LBox.one (w := w) (l := l) (A := A) (C := C) (cA := cA) (cC := cC)
  have hB : G w (w.alloc (.cells (cells4 l A C cA cC) 27)) := (G.refl _).alloc _
  generalize w.alloc _ = W0 at *
  refine (Thin_c l A C cA cC W0).mono ?_
  rw [ht]
  rintro e W ⟨rfl, hb1⟩
  replace hB := hB.trans hb1
  have HK := Lib.hid (k0.grow hb1)
  obtain ⟨s0, s1, s2, s3⟩ := HK.out
  clear ht k0 hb1
  -- Ledger of l A C cA cC (its LedR HL.out.grow hB at the world W), to w2 by hb2; lengths by omega; HX: the new LedR
  go_wp2_with fail
  refine (Ledger_c l A C cA cC W (HL.out.grow hB) (by omega) (by omega)).mono ?_
  rintro e w2 ⟨⟨AX, CX, cAX, cCX, rfl, hLX, hcA, hcC⟩, hb2⟩
  have HX := Lib.hid hLX
  clear hLX
  go_wp2_with fail
  refine (Struck_c l AX CX cAX cCX w2 HX.out hg hc hcC).mono ?_
  rintro e w3 ⟨⟨v3, rfl, ho3⟩, hb3⟩
  obtain ⟨A3, c3, rfl, -, hr3⟩ := ho3.row
  have HR3 := Lib.hid hr3
  have hb23 := hb2.trans hb3
  -- box kept over hb23; growth hB renewed to g3
  replace HK := Lib.hid (HK.out.grow hb23)
  have g3 := (hB).trans hb23
  clear s0 s1 s2 s3
  obtain ⟨s0, s1, s2, s3⟩ := HK.out
  clear HX hcA hcC hb2 hb3 hb23 hB ho3 hr3
  go_wp2_with fail
  -- Ledger of l A C cA cC (its LedR HL.out.grow g3 at the world w3), to w4 by hb4; lengths by omega; HX: the new LedR
  go_wp2_with fail
  refine (Ledger_c l A C cA cC w3 (HL.out.grow g3) (by omega) (by omega)).mono ?_
  rintro e w4 ⟨⟨AX, CX, cAX, cCX, rfl, hLX, hcA, hcC⟩, hb4⟩
  have HX := Lib.hid hLX
  clear hLX
  go_wp2_with fail
  refine (First_c l AX CX cAX cCX w4 HX.out hg hc hcC).mono ?_
  rintro e w5 ⟨rfl, hb5⟩
  have hb45 := hb4.trans hb5
  replace HR3 := Lib.hid (HR3.out.grow hb45)
  -- box kept over hb45; growth g3 renewed to g5
  replace HK := Lib.hid (HK.out.grow hb45)
  have g5 := (g3).trans hb45
  clear s0 s1 s2 s3
  obtain ⟨s0, s1, s2, s3⟩ := HK.out
  clear HX hcA hcC hb4 hb5 hb45 g3
  go_wp2_with fail
  -- Ledger of l A C cA cC (its LedR HL.out.grow g5 at the world w5), to w6 by hb6; lengths by omega; HX: the new LedR
  go_wp2_with fail
  refine (Ledger_c l A C cA cC w5 (HL.out.grow g5) (by omega) (by omega)).mono ?_
  rintro e w6 ⟨⟨AX, CX, cAX, cCX, rfl, hLX, hcA, hcC⟩, hb6⟩
  have HX := Lib.hid hLX
  clear hLX
  go_wp2_with fail
  refine (Leave_c l AX CX cAX cCX w6 HX.out hg hc (fun h => leaveF_some h)).mono ?_
  rintro e w7 ⟨⟨v7, rfl, ho7⟩, hb7⟩
  obtain ⟨A7, c7, rfl, -, hr7⟩ := ho7.row
  have HR7 := Lib.hid hr7
  have hb67 := hb6.trans hb7
  replace HR3 := Lib.hid (HR3.out.grow hb67)
  -- box kept over hb67; growth g5 renewed to g7
  replace HK := Lib.hid (HK.out.grow hb67)
  have g7 := (g5).trans hb67
  clear s0 s1 s2 s3
  obtain ⟨s0, s1, s2, s3⟩ := HK.out
  clear HX hcA hcC hb6 hb7 hb67 g5 ho7 hr7
  go_wp2_with fail
  refine (fault_c l A C cA cC w7 (HL.out.grow g7) hg hc).mono ?_
  rintro e w8 ⟨rfl, hb8⟩
  replace HR3 := Lib.hid (HR3.out.grow hb8)
  replace HR7 := Lib.hid (HR7.out.grow hb8)
  -- box kept over hb8; growth g7 renewed to g8
  replace HK := Lib.hid (HK.out.grow hb8)
  have g8 := (g7).trans hb8
  clear s0 s1 s2 s3
  obtain ⟨s0, s1, s2, s3⟩ := HK.out
  clear hb8 g7
  by_cases he : fault l = 0
  · have HV := Lib.hid (valid_of he)
    have hnc := HV.out.nc
    have HSE := Lib.hid (struckL_eq HV.out)
    have hl3 : (struckTo l l.cs.length).length ≤ 5 := by have := struckTo_len l l.cs.length; omega
    have hl7 := leaveL_len HV.out
    have hlA := refAll_len HV.out
    rw [HSE.out] at HR3 ⊢
    rw [he]
    clear he
    go_wp2_with fail
    refine (All_c (cA := cA) (cC := cC) HV.out (HL.out.grow g8)).mono ?_
    rintro e w9 ⟨⟨v9, rfl, ho9⟩, hb9⟩
    obtain ⟨A9, c9, rfl, -, hr9⟩ := ho9.row
    have HR9 := Lib.hid hr9
    replace HR3 := Lib.hid (HR3.out.grow hb9)
    replace HR7 := Lib.hid (HR7.out.grow hb9)
    -- box kept over hb9; growth g8 renewed to g9
    replace HK := Lib.hid (HK.out.grow hb9)
    have g9 := (g8).trans hb9
    clear s0 s1 s2 s3
    obtain ⟨s0, s1, s2, s3⟩ := HK.out
    clear ho9 hr9 hb9 g8
    go_wp2_with fail
    refine (RStruck_c (cA := cA) (cC := cC) (cT := c9) HV.out (HL.out.grow g9) HR9.out).mono ?_
    rintro e w10 ⟨⟨v10, rfl, ho10⟩, hb10⟩
    obtain ⟨A10, c10, rfl, -, hr10⟩ := ho10.row
    have HR10 := Lib.hid hr10
    replace HR3 := Lib.hid (HR3.out.grow hb10)
    clear ho10 hr10 s0 s1 s2 s3
    go_wp2_with fail
    refine (same_c A3 A10 c3 c10 _ _ w10 HR3.out HR10.out (by omega) (by omega)).mono ?_
    rw [decide_eq_true (rfl : struckTo l l.cs.length = struckTo l l.cs.length)]
    rintro e w11 ⟨rfl, hb11⟩
    have hb911 := hb10.trans hb11
    have HK11 := Lib.hid (HK.out.grow hb911)
    have g11 := g9.trans hb911
    obtain ⟨s0, s1, s2, s3⟩ := HK11.out
    replace HR7 := Lib.hid (HR7.out.grow hb911)
    replace HR9 := Lib.hid (HR9.out.grow hb911)
    clear hb10 hb11 hb911 g9 HK HR10
    go_wp2_with fail
    refine (RLeave_c (cA := cA) (cC := cC) (cT := c9) HV.out (HL.out.grow g11) HR9.out).mono ?_
    rintro e w12 ⟨⟨A12, c12, rfl, hr12⟩, hb12⟩
    have HR12 := Lib.hid hr12
    replace HR7 := Lib.hid (HR7.out.grow hb12)
    clear hr12 s0 s1 s2 s3
    go_wp2_with fail
    refine (same_c A7 A12 c7 c12 _ _ w12 HR7.out HR12.out (by omega) (by omega)).mono ?_
    rw [decide_eq_true (rfl : leaveL l = leaveL l)]
    rintro e w13 ⟨rfl, hb13⟩
    have hb1113 := hb12.trans hb13
    have HK13 := Lib.hid (HK11.out.grow hb1113)
    have g13 := g11.trans hb1113
    obtain ⟨s0, s1, s2, s3⟩ := HK13.out
    replace HR9 := Lib.hid (HR9.out.grow hb1113)
    clear hb12 hb13 hb1113 g11 HK11 HR12
    go_wp2_with fail
    refine (RFirst_c (cA := cA) (cC := cC) (cT := c9) HV.out (HL.out.grow g13) HR9.out).mono ?_
    rintro e w14 ⟨rfl, hb14⟩
    have g14 := g13.trans hb14
    clear s0 s1 s2 s3
    by_cases hf : (firstL l).2 = 0
    · obtain ⟨q, e1, -⟩ := first_some HV.out hf
      have hrf : refFirst l = (q : Int) := by unfold refFirst; rw [if_pos hf, e1]
      rw [hrf, hf, e1]
      clear hrf hf e1
      have hq : ((q : Int) < 0) = False := eq_false (by omega)
      have hq2 : decide ((q : Int) < 0) = false := decide_eq_false (by omega)
      have hq3 : ((q : Int) == q) = true := by simp
      go_wp2_with fail
      refine (awake_c w14).mono ?_
      rintro e w99 ⟨rfl, hb99⟩
      go_wp2_with fail
      go_ret
      exact ⟨rfl, (g14).trans hb99⟩
    · have hrf : refFirst l = -1 := by unfold refFirst; rw [if_neg hf]
      rw [hrf, first_no2 HV.out hf]
      clear hrf hf
      go_wp2_with fail
      refine (awake_c w14).mono ?_
      rintro e w99 ⟨rfl, hb99⟩
      go_wp2_with fail
      go_ret
      exact ⟨rfl, (g14).trans hb99⟩
  · have HSE := Lib.hid (show struckL l = [] by unfold struckL; rw [if_neg he])
    have HLE := Lib.hid (show leaveL l = [] by unfold leaveL; rw [if_neg he])
    have HFE := Lib.hid (show firstL l = (0, fault l) by unfold firstL; rw [if_neg he])
    rw [HSE.out, HLE.out, HFE.out]
    have hne : (fault l != 0) = true := by simp [he]
    have hee : (fault l == fault l) = true := by simp
    generalize fault l = E at *
    clear he
    go_wp2_with fail
    refine (awake_c w8).mono ?_
    rintro e w99 ⟨rfl, hb99⟩
    go_wp2_with fail
    go_ret
    exact ⟨rfl, (g8).trans hb99⟩
end Go.Proofs.Ytogdhkecpjndlaa.C
