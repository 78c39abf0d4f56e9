/- The law GrowerStruck, walked. -/
import Derived.Test.YtogdhkecpjndlaaQ6
import Derived.Test.YtogdhkecpjndlaaW9
set_option linter.unusedSimpArgs false
set_option linter.unusedVariables false
namespace Go.Proofs.Ytogdhkecpjndlaa.C
open Go.RowKit
set_option maxRecDepth 100000


theorem any_take {xs : List Int} {p : Int → Bool} {k : Nat} (h : k < xs.length) : (xs.take (k + 1)).any p = ((xs.take k).any p || p xs[k]) := by
  rw [List.take_succ_eq_append_getElem h, List.any_append]
  simp
theorem struckTo_len (l : Led) (k : Nat) : (struckTo l k).length ≤ k := by
  unfold struckTo
  rw [List.length_map]
  have := List.length_filter_le (fun i => !anyR (oneC l i) []) (List.range k)
  simpa using this
theorem bitsL_len (b : Nat) : (bitsL b).length ≤ 6 := by
  unfold bitsL
  rw [List.length_map]
  have := List.length_filter_le (fun p => b.testBit p) (List.range 6)
  simpa using this
theorem leaveL_len {l : Led} (hV : Valid l) : (leaveL l).length ≤ 6 := by
  obtain ⟨b, -, h, -⟩ := leave_facts hV
  rw [h]
  exact bitsL_len b
theorem pow_w (k : Fin 6) : wrap64 (2 ^ k.val) = ((2 ^ k.val : Nat) : Int) := by revert k; decide +kernel
set_option maxHeartbeats 8000000 in
theorem GrowerStruck_c {l : Led} {A C : Option Addr} {cA cC : Nat} {w : World} (hL : LedR w l A C) :
    Calls Try.prog 11 #[ledV l A C cA cC] w fun e w' => e = .returned (.bool true) ∧ G w w' := by
  have HL := Lib.hid hL
  clear hL
  cases hr : readyB l
  · go_enter Try.func11, Try.ntmps11
    go_wp2_with fail
    have hB : G w (w.alloc (.cells #[.int .i64 l.lo, .int .i64 l.hi, .slice A l.gs.length cA, .slice C l.cs.length cC] 27)) := (G.refl _).alloc _
    generalize w.alloc _ = W at *
    refine (ready_c (HL.out.grow hB)).mono ?_
    rw [hr]
    rintro e w1 ⟨rfl, hb1⟩
    clear hr
    go_wp2_with fail
    refine (awake_c w1).mono ?_
    rintro e w2 ⟨rfl, hb2⟩
    go_wp2_with fail
    go_ret
    exact ⟨rfl, hB.trans (hb1.trans hb2)⟩
  obtain ⟨hg, hc, hf, hV⟩ := readyB_iff hr
  have HV := Lib.hid hV
  have HF := Lib.hid hf
  have hng := hV.ng
  have hnc := hV.nc
  clear hf hV
  go_enter Try.func11, Try.ntmps11
  go_wp2_with fail
  have hB : G w (w.alloc (.cells #[.int .i64 l.lo, .int .i64 l.hi, .slice A l.gs.length cA, .slice C l.cs.length cC] 27)) := (G.refl _).alloc _
  have k0 := LBox.one (w := w) (l := l) (A := A) (C := C) (cA := cA) (cC := cC)
  generalize w.alloc _ = W0 at *
  refine (ready_c (HL.out.grow hB)).mono ?_
  rw [hr]
  rintro e W ⟨rfl, hb1⟩
  have HK := Lib.hid (k0.grow hb1)
  replace hB := hB.trans hb1
  clear hr hb1 k0
  obtain ⟨s0, s1, s2, s3⟩ := HK.out
  -- Ledger of l A C cA cC (its LedR HL.out.grow hB at the world W), to w2 by hb2; lengths by omega; HX: the new LedR
  go_wp2_with fail
  refine (Ledger_c l A C cA cC W (HL.out.grow hB) (by omega) (by omega)).mono ?_
  rintro e w2 ⟨⟨AX, CX, cAX, cCX, rfl, hLX, hcA, hcC⟩, hb2⟩
  have HX := Lib.hid hLX
  clear hLX
  go_wp2_with fail
  refine (Struck_c l AX CX cAX cCX w2 HX.out hg hc hcC).mono ?_
  rw [HF.out]
  rintro e w3 ⟨⟨v3, rfl, ho3⟩, hb3⟩
  obtain ⟨A3, c3, rfl, -, hr3⟩ := ho3.row
  have HR3 := Lib.hid hr3
  have hb23 := hb2.trans hb3
  -- box kept over hb23; growth hB renewed to g3
  replace HK := Lib.hid (HK.out.grow hb23)
  have g3 := (hB).trans hb23
  clear s0 s1 s2 s3
  obtain ⟨s0, s1, s2, s3⟩ := HK.out
  clear HX hcA hcC hb2 hb3 hb23 hB ho3 hr3
  go_wp2_with fail
  -- Ledger of l A C cA cC (its LedR HL.out.grow g3 at the world w3), to w4 by hb4; lengths by omega; HX: the new LedR
  go_wp2_with fail
  refine (Ledger_c l A C cA cC w3 (HL.out.grow g3) (by omega) (by omega)).mono ?_
  rintro e w4 ⟨⟨AX, CX, cAX, cCX, rfl, hLX, hcA, hcC⟩, hb4⟩
  have HX := Lib.hid hLX
  clear hLX
  go_wp2_with fail
  refine (Leave_c l AX CX cAX cCX w4 HX.out hg hc (fun h => leaveF_some h)).mono ?_
  rw [HF.out]
  rintro e w5 ⟨⟨v5, rfl, ho5⟩, hb5⟩
  obtain ⟨A5, c5, rfl, -, hr5⟩ := ho5.row
  have HR5 := Lib.hid hr5
  have hb45 := hb4.trans hb5
  replace HR3 := Lib.hid (HR3.out.grow hb45)
  -- box kept over hb45; growth g3 renewed to g5
  replace HK := Lib.hid (HK.out.grow hb45)
  have g5 := (g3).trans hb45
  clear s0 s1 s2 s3
  obtain ⟨s0, s1, s2, s3⟩ := HK.out
  clear HX hcA hcC hb4 hb5 hb45 g3 ho5 hr5
  go_wp2_with fail
  -- Ledger of l A C cA cC (its LedR HL.out.grow g5 at the world w5), to w6 by hb6; lengths by omega; HX: the new LedR
  go_wp2_with fail
  refine (Ledger_c l A C cA cC w5 (HL.out.grow g5) (by omega) (by omega)).mono ?_
  rintro e w6 ⟨⟨AX, CX, cAX, cCX, rfl, hLX, hcA, hcC⟩, hb6⟩
  have HX := Lib.hid hLX
  clear hLX
  go_wp2_with fail
  refine (Full_c l AX CX cAX cCX w6 HX.out hg hc).mono ?_
  rintro e w7 ⟨rfl, hb7⟩
  have hb67 := hb6.trans hb7
  replace HR3 := Lib.hid (HR3.out.grow hb67)
  replace HR5 := Lib.hid (HR5.out.grow hb67)
  -- box kept over hb67; growth g5 renewed to g7
  replace HK := Lib.hid (HK.out.grow hb67)
  have g7 := (g5).trans hb67
  clear s0 s1 s2 s3
  obtain ⟨s0, s1, s2, s3⟩ := HK.out
  clear HX hcA hcC hb6 hb7 hb67 g5
  have HSF := Lib.hid (fun h => struck_false (l := l) HV.out h)
  have HSY := Lib.hid (fun (i : Nat) (hi : i < l.cs.length) h => struck_yes (l := l) HV.out hi h)
  have HSN := Lib.hid (fun (i : Nat) (hi : i < l.cs.length) h => struck_no (l := l) HV.out hi h)
  have HSE := Lib.hid (struckL_eq (l := l) HV.out)
  have hsl5 : (struckL l).length ≤ 5 := by rw [HSE.out]; have := struckTo_len l l.cs.length; omega
  have hol6 := leaveL_len HV.out
  by_cases hm : struckL l = []
  · have hm0 : ((0 : Int) < ((struckL l).length : Int)) = False := by rw [hm]; simp
    have hm1 : decide ((0 : Int) < ((struckL l).length : Int)) = false := by rw [hm]; simp
    have hm2 : ¬ (0 < (struckL l).length) := by rw [hm]; simp
    clear hm
    go_wp2_with fail
    clear hm0 hm1 hm2
    go_loopw [10, 9] (fun v10 v9 wr => ∃ (i : Nat), i ≤ l.cs.length ∧ v10 = .int .i64 i ∧ v9 = .int .i64 ((struckTo l i).length) ∧ G w7 wr) (fun v10 _ _ => l.cs.length - (intOf v10).toNat)
    case atStart => exact ⟨0, by omega, rfl, rfl, G.refl _⟩
    case round =>
      obtain ⟨i, hi, rfl, rfl, hbr⟩ := hrel
      obtain ⟨s0, s1, s2, s3⟩ := HK.out.grow hbr
      by_cases hlti : i < l.cs.length
      · go_wp2_with fail
        obtain ⟨wo, rfl⟩ : ∃ wo : World, wo = wr := ⟨_, rfl⟩
        -- whether i is in the list (struckL l); the loop's slot 13, the flag's slot 11; the row HR3 (at w7); the loop's world wo (grown from w7 by hbr)
        go_loopw [13, 11] (fun v4 v5 wr => ∃ (k : Nat), k ≤ ((struckL l)).length ∧ v4 = .int .i64 k ∧ v5 = .bool ((((struckL l)).take k).any (fun x => x == (i : Int))) ∧ G wo wr) (fun v4 _ _ => ((struckL l)).length - (intOf v4).toNat)
        case atStart => exact ⟨0, by omega, rfl, rfl, G.refl _⟩
        case round =>
          obtain ⟨k, hk, rfl, rfl, hbq⟩ := hrel
          by_cases hlt : k < ((struckL l)).length
          · have hnx := any_take (p := fun x => x == (i : Int)) hlt
            obtain ⟨b, off, hee, d0⟩ := HR3.out.at hlt
            cases hee
            have e0 := ((hbr).trans hbq).cell d0
            clear d0
            cases hfl : (((struckL l)).take k).any (fun x => x == (i : Int)) with
            | true =>
              have HNX := Lib.hid (hnx.trans (by rw [hfl, Bool.true_or]))
              clear hnx hfl
              go_wp2_with fail
              go_roundw
              case rel => exact ⟨k + 1, by omega, by go_num, by rw [HNX.out], hbq⟩
              case measure => simp [intOf] <;> omega
            | false =>
              have HNX := Lib.hid (hnx.trans (by rw [hfl, Bool.false_or]))
              clear hnx hfl
              generalize ((struckL l))[k] = y at *
              go_wp2_with fail
              go_roundw
              case rel => exact ⟨k + 1, by omega, by go_num, by rw [HNX.out], hbq⟩
              case measure => simp [intOf] <;> omega
          · obtain rfl : k = ((struckL l)).length := by omega
            rw [List.take_length]
            clear hk hlt
            go_wp2_with fail
            obtain ⟨wp, rfl⟩ : ∃ wp : World, wp = wr := ⟨_, rfl⟩
            have hbp := hbr.trans hbq
            -- whether i is in the list (leaveL l); the loop's slot 14, the flag's slot 12; the row HR5 (at w7); the loop's world wp (grown from w7 by hbp)
            go_loopw [14, 12] (fun v4 v5 wr => ∃ (k : Nat), k ≤ ((leaveL l)).length ∧ v4 = .int .i64 k ∧ v5 = .bool ((((leaveL l)).take k).any (fun x => x == (i : Int))) ∧ G wp wr) (fun v4 _ _ => ((leaveL l)).length - (intOf v4).toNat)
            case atStart => exact ⟨0, by omega, rfl, rfl, G.refl _⟩
            case round =>
              obtain ⟨k, hk, rfl, rfl, hbq⟩ := hrel
              by_cases hlt : k < ((leaveL l)).length
              · have hnx := any_take (p := fun x => x == (i : Int)) hlt
                obtain ⟨b, off, hee, d0⟩ := HR5.out.at hlt
                cases hee
                have e0 := ((hbp).trans hbq).cell d0
                clear d0
                cases hfl : (((leaveL l)).take k).any (fun x => x == (i : Int)) with
                | true =>
                  have HNX := Lib.hid (hnx.trans (by rw [hfl, Bool.true_or]))
                  clear hnx hfl
                  go_wp2_with fail
                  go_roundw
                  case rel => exact ⟨k + 1, by omega, by go_num, by rw [HNX.out], hbq⟩
                  case measure => simp [intOf] <;> omega
                | false =>
                  have HNX := Lib.hid (hnx.trans (by rw [hfl, Bool.false_or]))
                  clear hnx hfl
                  generalize ((leaveL l))[k] = y at *
                  go_wp2_with fail
                  go_roundw
                  case rel => exact ⟨k + 1, by omega, by go_num, by rw [HNX.out], hbq⟩
                  case measure => simp [intOf] <;> omega
              · obtain rfl : k = ((leaveL l)).length := by omega
                rw [List.take_length]
                clear hk hlt
                have hb9 := hbp.trans hbq
                have g9 := g7.trans hb9
                clear s0 s1 s2 s3
                obtain ⟨s0, s1, s2, s3⟩ := HK.out.grow hb9
                have h26 : 2 ^ i ≤ 2 ^ 5 := Nat.pow_le_pow_right (by omega) (by omega)
                cases hs : (struckL l).any (fun x => x == (i : Int)) with
                | true =>
                  obtain ⟨ho, he, hsc, hlt, hat⟩ := HSY.out i hlti hs
                  rw [ho]
                  have HSC := Lib.hid hsc
                  have HE := Lib.hid he
                  obtain ⟨bs, off, hee, d0⟩ := HR3.out.at hlt
                  cases hee
                  rw [hat] at d0
                  have HD0 := Lib.hid d0
                  have htl : ((struckTo l i).length : Int) < (struckL l).length := by omega
                  have htb : (struckTo l i).length ≤ 5 := by omega
                  clear hs ho hsc hat he d0
                  go_wp2_with fail
                  rw [pow_w ⟨i, by omega⟩]
                  -- some of l by bits (2 ^ i) at world wr grown by g9; to v1, then the ledger to v2, then Full to v3
                  refine (some_c (b := (2 ^ i)) (cA := cA) (cC := cC) (HL.out.grow g9) (by omega) (by omega)).mono ?_
                  rintro e v1 ⟨⟨C1, cC1, rfl, hL1⟩, hs1⟩
                  have HL1 := Lib.hid hL1
                  clear hL1
                  have hsl := someL_cs l (2 ^ i)
                  go_wp2_with fail
                  refine (Ledger_c (someL l (2 ^ i)) A C1 cA cC1 v1 HL1.out (by rw [someL_gs]; omega) (by omega)).mono ?_
                  rintro e v2 ⟨⟨A2, C2, cA2, cC2, rfl, hL2, -, -⟩, hs2⟩
                  have HL2 := Lib.hid hL2
                  clear hL2
                  go_wp2_with fail
                  refine (Full_c (someL l (2 ^ i)) A2 C2 cA2 cC2 v2 HL2.out (by rw [someL_gs]; omega) (by omega)).mono ?_
                  rintro e v3 ⟨rfl, hs3⟩
                  clear HL1 HL2 hsl
                  rw [HE.out]
                  have hbv := hs1.trans (hs2.trans hs3)
                  have e0 := (hb9.trans hbv).cell HD0.out
                  clear s0 s1 s2 s3 hs1 hs2 hs3
                  have hii : ((i : Int) != i) = false := by simp
                  generalize (struckTo l i).length = t at *
                  go_wp2_with fail
                  go_roundw
                  case rel => exact ⟨i + 1, by omega, by go_num, by rw [HSC.out]; go_num, hb9.trans hbv⟩
                  case measure => simp [intOf] <;> omega
                | false =>
                  obtain ⟨he, hsc⟩ := HSN.out i hlti hs
                  have HSC := Lib.hid hsc
                  have HE := Lib.hid he
                  clear hs hsc he
                  go_wp2_with fail
                  rw [pow_w ⟨i, by omega⟩]
                  -- some of l by bits (2 ^ i) at world wr grown by g9; to v1, then the ledger to v2, then Full to v3
                  refine (some_c (b := (2 ^ i)) (cA := cA) (cC := cC) (HL.out.grow g9) (by omega) (by omega)).mono ?_
                  rintro e v1 ⟨⟨C1, cC1, rfl, hL1⟩, hs1⟩
                  have HL1 := Lib.hid hL1
                  clear hL1
                  have hsl := someL_cs l (2 ^ i)
                  go_wp2_with fail
                  refine (Ledger_c (someL l (2 ^ i)) A C1 cA cC1 v1 HL1.out (by rw [someL_gs]; omega) (by omega)).mono ?_
                  rintro e v2 ⟨⟨A2, C2, cA2, cC2, rfl, hL2, -, -⟩, hs2⟩
                  have HL2 := Lib.hid hL2
                  clear hL2
                  go_wp2_with fail
                  refine (Full_c (someL l (2 ^ i)) A2 C2 cA2 cC2 v2 HL2.out (by rw [someL_gs]; omega) (by omega)).mono ?_
                  rintro e v3 ⟨rfl, hs3⟩
                  clear HL1 HL2 hsl
                  rw [HE.out]
                  have hbv := hs1.trans (hs2.trans hs3)
                  clear s0 s1 s2 s3 hs1 hs2 hs3
                  generalize (struckTo l i).length = t at *
                  go_wp2_with fail
                  go_roundw
                  case rel => exact ⟨i + 1, by omega, by go_num, by rw [HSC.out], hb9.trans hbv⟩
                  case measure => simp [intOf] <;> omega
      · obtain rfl : i = l.cs.length := by omega
        rw [← HSE.out]
        have hnn : (((struckL l).length : Int) == (struckL l).length) = true := by simp
        have g9 := g7.trans hbr
        go_wp2_with fail
        refine (awake_c wr).mono ?_
        rintro e w99 ⟨rfl, hb99⟩
        go_wp2_with fail
        go_ret
        exact ⟨rfl, (g9).trans hb99⟩
  · have hm0 : 0 < (struckL l).length := List.length_pos_iff.2 hm
    rw [HSF.out hm]
    go_wp2_with fail
    clear hm0 hm
    go_loopw [10, 9] (fun v10 v9 wr => ∃ (i : Nat), i ≤ l.cs.length ∧ v10 = .int .i64 i ∧ v9 = .int .i64 ((struckTo l i).length) ∧ G w7 wr) (fun v10 _ _ => l.cs.length - (intOf v10).toNat)
    case atStart => exact ⟨0, by omega, rfl, rfl, G.refl _⟩
    case round =>
      obtain ⟨i, hi, rfl, rfl, hbr⟩ := hrel
      obtain ⟨s0, s1, s2, s3⟩ := HK.out.grow hbr
      by_cases hlti : i < l.cs.length
      · go_wp2_with fail
        obtain ⟨wo, rfl⟩ : ∃ wo : World, wo = wr := ⟨_, rfl⟩
        -- whether i is in the list (struckL l); the loop's slot 13, the flag's slot 11; the row HR3 (at w7); the loop's world wo (grown from w7 by hbr)
        go_loopw [13, 11] (fun v4 v5 wr => ∃ (k : Nat), k ≤ ((struckL l)).length ∧ v4 = .int .i64 k ∧ v5 = .bool ((((struckL l)).take k).any (fun x => x == (i : Int))) ∧ G wo wr) (fun v4 _ _ => ((struckL l)).length - (intOf v4).toNat)
        case atStart => exact ⟨0, by omega, rfl, rfl, G.refl _⟩
        case round =>
          obtain ⟨k, hk, rfl, rfl, hbq⟩ := hrel
          by_cases hlt : k < ((struckL l)).length
          · have hnx := any_take (p := fun x => x == (i : Int)) hlt
            obtain ⟨b, off, hee, d0⟩ := HR3.out.at hlt
            cases hee
            have e0 := ((hbr).trans hbq).cell d0
            clear d0
            cases hfl : (((struckL l)).take k).any (fun x => x == (i : Int)) with
            | true =>
              have HNX := Lib.hid (hnx.trans (by rw [hfl, Bool.true_or]))
              clear hnx hfl
              go_wp2_with fail
              go_roundw
              case rel => exact ⟨k + 1, by omega, by go_num, by rw [HNX.out], hbq⟩
              case measure => simp [intOf] <;> omega
            | false =>
              have HNX := Lib.hid (hnx.trans (by rw [hfl, Bool.false_or]))
              clear hnx hfl
              generalize ((struckL l))[k] = y at *
              go_wp2_with fail
              go_roundw
              case rel => exact ⟨k + 1, by omega, by go_num, by rw [HNX.out], hbq⟩
              case measure => simp [intOf] <;> omega
          · obtain rfl : k = ((struckL l)).length := by omega
            rw [List.take_length]
            clear hk hlt
            go_wp2_with fail
            obtain ⟨wp, rfl⟩ : ∃ wp : World, wp = wr := ⟨_, rfl⟩
            have hbp := hbr.trans hbq
            -- whether i is in the list (leaveL l); the loop's slot 14, the flag's slot 12; the row HR5 (at w7); the loop's world wp (grown from w7 by hbp)
            go_loopw [14, 12] (fun v4 v5 wr => ∃ (k : Nat), k ≤ ((leaveL l)).length ∧ v4 = .int .i64 k ∧ v5 = .bool ((((leaveL l)).take k).any (fun x => x == (i : Int))) ∧ G wp wr) (fun v4 _ _ => ((leaveL l)).length - (intOf v4).toNat)
            case atStart => exact ⟨0, by omega, rfl, rfl, G.refl _⟩
            case round =>
              obtain ⟨k, hk, rfl, rfl, hbq⟩ := hrel
              by_cases hlt : k < ((leaveL l)).length
              · have hnx := any_take (p := fun x => x == (i : Int)) hlt
                obtain ⟨b, off, hee, d0⟩ := HR5.out.at hlt
                cases hee
                have e0 := ((hbp).trans hbq).cell d0
                clear d0
                cases hfl : (((leaveL l)).take k).any (fun x => x == (i : Int)) with
                | true =>
                  have HNX := Lib.hid (hnx.trans (by rw [hfl, Bool.true_or]))
                  clear hnx hfl
                  go_wp2_with fail
                  go_roundw
                  case rel => exact ⟨k + 1, by omega, by go_num, by rw [HNX.out], hbq⟩
                  case measure => simp [intOf] <;> omega
                | false =>
                  have HNX := Lib.hid (hnx.trans (by rw [hfl, Bool.false_or]))
                  clear hnx hfl
                  generalize ((leaveL l))[k] = y at *
                  go_wp2_with fail
                  go_roundw
                  case rel => exact ⟨k + 1, by omega, by go_num, by rw [HNX.out], hbq⟩
                  case measure => simp [intOf] <;> omega
              · obtain rfl : k = ((leaveL l)).length := by omega
                rw [List.take_length]
                clear hk hlt
                have hb9 := hbp.trans hbq
                have g9 := g7.trans hb9
                clear s0 s1 s2 s3
                obtain ⟨s0, s1, s2, s3⟩ := HK.out.grow hb9
                have h26 : 2 ^ i ≤ 2 ^ 5 := Nat.pow_le_pow_right (by omega) (by omega)
                cases hs : (struckL l).any (fun x => x == (i : Int)) with
                | true =>
                  obtain ⟨ho, he, hsc, hlt, hat⟩ := HSY.out i hlti hs
                  rw [ho]
                  have HSC := Lib.hid hsc
                  have HE := Lib.hid he
                  obtain ⟨bs, off, hee, d0⟩ := HR3.out.at hlt
                  cases hee
                  rw [hat] at d0
                  have HD0 := Lib.hid d0
                  have htl : ((struckTo l i).length : Int) < (struckL l).length := by omega
                  have htb : (struckTo l i).length ≤ 5 := by omega
                  clear hs ho hsc hat he d0
                  go_wp2_with fail
                  rw [pow_w ⟨i, by omega⟩]
                  -- some of l by bits (2 ^ i) at world wr grown by g9; to v1, then the ledger to v2, then Full to v3
                  refine (some_c (b := (2 ^ i)) (cA := cA) (cC := cC) (HL.out.grow g9) (by omega) (by omega)).mono ?_
                  rintro e v1 ⟨⟨C1, cC1, rfl, hL1⟩, hs1⟩
                  have HL1 := Lib.hid hL1
                  clear hL1
                  have hsl := someL_cs l (2 ^ i)
                  go_wp2_with fail
                  refine (Ledger_c (someL l (2 ^ i)) A C1 cA cC1 v1 HL1.out (by rw [someL_gs]; omega) (by omega)).mono ?_
                  rintro e v2 ⟨⟨A2, C2, cA2, cC2, rfl, hL2, -, -⟩, hs2⟩
                  have HL2 := Lib.hid hL2
                  clear hL2
                  go_wp2_with fail
                  refine (Full_c (someL l (2 ^ i)) A2 C2 cA2 cC2 v2 HL2.out (by rw [someL_gs]; omega) (by omega)).mono ?_
                  rintro e v3 ⟨rfl, hs3⟩
                  clear HL1 HL2 hsl
                  rw [HE.out]
                  have hbv := hs1.trans (hs2.trans hs3)
                  have e0 := (hb9.trans hbv).cell HD0.out
                  clear s0 s1 s2 s3 hs1 hs2 hs3
                  have hii : ((i : Int) != i) = false := by simp
                  generalize (struckTo l i).length = t at *
                  go_wp2_with fail
                  go_roundw
                  case rel => exact ⟨i + 1, by omega, by go_num, by rw [HSC.out]; go_num, hb9.trans hbv⟩
                  case measure => simp [intOf] <;> omega
                | false =>
                  obtain ⟨he, hsc⟩ := HSN.out i hlti hs
                  have HSC := Lib.hid hsc
                  have HE := Lib.hid he
                  clear hs hsc he
                  go_wp2_with fail
                  rw [pow_w ⟨i, by omega⟩]
                  -- some of l by bits (2 ^ i) at world wr grown by g9; to v1, then the ledger to v2, then Full to v3
                  refine (some_c (b := (2 ^ i)) (cA := cA) (cC := cC) (HL.out.grow g9) (by omega) (by omega)).mono ?_
                  rintro e v1 ⟨⟨C1, cC1, rfl, hL1⟩, hs1⟩
                  have HL1 := Lib.hid hL1
                  clear hL1
                  have hsl := someL_cs l (2 ^ i)
                  go_wp2_with fail
                  refine (Ledger_c (someL l (2 ^ i)) A C1 cA cC1 v1 HL1.out (by rw [someL_gs]; omega) (by omega)).mono ?_
                  rintro e v2 ⟨⟨A2, C2, cA2, cC2, rfl, hL2, -, -⟩, hs2⟩
                  have HL2 := Lib.hid hL2
                  clear hL2
                  go_wp2_with fail
                  refine (Full_c (someL l (2 ^ i)) A2 C2 cA2 cC2 v2 HL2.out (by rw [someL_gs]; omega) (by omega)).mono ?_
                  rintro e v3 ⟨rfl, hs3⟩
                  clear HL1 HL2 hsl
                  rw [HE.out]
                  have hbv := hs1.trans (hs2.trans hs3)
                  clear s0 s1 s2 s3 hs1 hs2 hs3
                  generalize (struckTo l i).length = t at *
                  go_wp2_with fail
                  go_roundw
                  case rel => exact ⟨i + 1, by omega, by go_num, by rw [HSC.out], hb9.trans hbv⟩
                  case measure => simp [intOf] <;> omega
      · obtain rfl : i = l.cs.length := by omega
        rw [← HSE.out]
        have hnn : (((struckL l).length : Int) == (struckL l).length) = true := by simp
        have g9 := g7.trans hbr
        go_wp2_with fail
        refine (awake_c wr).mono ?_
        rintro e w99 ⟨rfl, hb99⟩
        go_wp2_with fail
        go_ret
        exact ⟨rfl, (g9).trans hb99⟩
end Go.Proofs.Ytogdhkecpjndlaa.C
