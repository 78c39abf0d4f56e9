/- The reference: what is right with all counts; the claims that must be struck out, the first wrong claim, the smallest set. -/
import Derived.Test.YtogdhkecpjndlaaU1
import Derived.Test.YtogdhkecpjndlaaQ8
import Derived.Test.YtogdhkecpjndlaaF3
import Derived.Test.YtogdhkecpjndlaaW10
set_option linter.unusedSimpArgs false
set_option linter.unusedVariables false
namespace Go.Proofs.Ytogdhkecpjndlaa.C
open Go.RowKit
set_option maxRecDepth 100000

def allTo (l : Led) (k : Nat) : List Int := (List.range k).map fun (n : Nat) => (rightN l (nthC l (n : Int)) : Int)
theorem allTo_succ (l : Led) (k : Nat) : allTo l (k + 1) = allTo l k ++ [(rightN l (nthC l (k : Int)) : Int)] := by
  unfold allTo
  rw [List.range_succ, List.map_append]
  rfl
theorem allTo_len (l : Led) (k : Nat) : (allTo l k).length = k := by simp [allTo]
theorem allTo_all (l : Led) : allTo l (manyL l).toNat = refAll l := by
  unfold refAll refCounts allTo
  rw [List.map_map]
  rfl
theorem refAll_len {l : Led} (hV : Valid l) : (refAll l).length ≤ 2000 := by
  have := manyL_pos hV
  rw [← allTo_all, allTo_len]
  omega

set_option maxHeartbeats 8000000 in
theorem All_c {l : Led} {A C : Option Addr} {cA cC : Nat} {w : World} (hV : Valid l) (hL : LedR w l A C) :
    Calls Try.prog 66 #[ledV l A C cA cC] w fun e w' => (∃ v, e = .returned v ∧ OwnI w.heap.size w' v (refAll l)) ∧ G w w' := by
  have HL := Lib.hid hL
  have HV := Lib.hid hV
  have hng := hV.ng
  have hnc := hV.nc
  have hr0 := hV.r0
  have hr1 := hV.r1
  have hr2 := hV.r2
  have hmp := manyL_pos hV
  have HVM : Hid (∀ g ∈ l.gs, 0 ≤ g.lo ∧ g.lo ≤ g.hi ∧ g.hi ≤ 1000) := fun g hg => by have := hV.g g hg; omega
  have HM : Hid (many 3000 (l.hi - l.lo + 1) l.gs = manyL l) := rfl
  have HMany := Lib.hid (fun (w1 : World) (h : G w w1) => Many_c l.lo l.hi A (.slice C l.cs.length cC) l.gs cA w1 (by omega) (by omega) (by omega) (HL.out.g.grow h) HVM.out (by omega))
  rw [HM.out] at HMany
  clear hV hL
  go_enter Try.func66, Try.ntmps66
  go_wp2_with fail
  have hB : G w (w.alloc (.cells #[.int .i64 l.lo, .int .i64 l.hi, .slice A l.gs.length cA, .slice C l.cs.length cC] 27)) := (G.refl _).alloc _
  have k := LBox.one (w := w) (l := l) (A := A) (C := C) (cA := cA) (cC := cC)
  generalize w.alloc _ = W at *
  have hBs := hB.size
  go_loopw [3, 4] (fun v3 v4 wr => ∃ (k : Nat), (k : Int) ≤ manyL l ∧ v4 = .int .i64 k ∧ Hid (OwnI W.heap.size wr v3 (allTo l k)) ∧ G W wr) (fun _ v4 _ => (manyL l - intOf v4).toNat)
  case atStart => exact ⟨0, by omega, rfl, OwnI.nil _ _, G.refl _⟩
  case round =>
    obtain ⟨k2, hk, rfl, HO, hbr⟩ := hrel
    obtain ⟨s0, s1, s2, s3⟩ := k.grow hbr
    go_wp2_with fail
    refine (HMany.out wr (hB.trans hbr)).mono ?_
    rintro e w1 ⟨rfl, hb1⟩
    have hbr1 := hbr.trans hb1
    clear s0 s1 s2 s3
    obtain ⟨s0, s1, s2, s3⟩ := k.grow hbr1
    by_cases hlt : (k2 : Int) < manyL l
    · have HAS := Lib.hid (allTo_succ l k2)
      have hC := nthC_mem HV.out hlt
      have hNth := Nth_c (C := C) (cA := cA) (cC := cC) (n := (k2 : Int)) HV.out (HL.out.g.grow (hB.trans hbr1)) (by omega) (by omega)
      have hlen : (allTo l k2).length ≤ 100000000 := by rw [allTo_len]; omega
      go_wp2_with fail
      refine wp_region_A (by as_aux_lemma => kernel_rfl) ?_
      obtain ⟨z, hz⟩ : ∃ z : World, z = { w1 with drawn := w1.drawn + 1 } := ⟨_, rfl⟩
      rw [← hz]
      have gz : G w1 z := by rw [hz]; exact (G.refl _).drew
      clear hz
      have HS : LBox z w.heap.size l A C cA cC := (k.grow hbr1).grow gz
      have hbz := hbr1.trans gz
      have hNz := Nth_c (C := C) (cA := cA) (cC := cC) (n := (k2 : Int)) HV.out (HL.out.g.grow (hB.trans hbz)) (by omega) (by omega)
      clear s0 s1 s2 s3 hNth
      refine wpAny_fork (fun w' => LBox w' w.heap.size l A C cA cC) 8 ?_
      refine wpAnyU_takes' (i := 0) rfl (by as_aux_lemma => kernel_rfl) (fun _ _ _ _ h => h) HS ?_
      apply Exists.intro
      apply And.intro
      · refine Or.inl (And.intro (by rfl) ?_)
        rintro w ⟨s0, s1, s2, s3⟩
        go_simp
        try rfl
      simp only [Act.put, List.setIfInBounds_toArray, List.set_cons_succ, List.set_cons_zero]
      refine wpAnyU_takes' (i := 1) rfl (by as_aux_lemma => kernel_rfl) (fun _ _ _ _ h => h) HS ?_
      apply Exists.intro
      apply And.intro
      · refine Or.inl (And.intro (by rfl) ?_)
        rintro w ⟨s0, s1, s2, s3⟩
        go_simp
        try rfl
      simp only [Act.put, List.setIfInBounds_toArray, List.set_cons_succ, List.set_cons_zero]
      refine wpAnyU_takes' (i := 2) rfl (by as_aux_lemma => kernel_rfl) (fun _ _ _ _ h => h) HS ?_
      apply Exists.intro
      apply And.intro
      · refine Or.inl (And.intro (by rfl) ?_)
        rintro w ⟨s0, s1, s2, s3⟩
        go_simp
        try rfl
      simp only [Act.put, List.setIfInBounds_toArray, List.set_cons_succ, List.set_cons_zero]
      refine wpAnyU_takes' (i := 3) rfl (by as_aux_lemma => kernel_rfl) (fun _ _ _ _ h => h) HS ?_
      apply Exists.intro
      apply And.intro
      · refine Or.inl (And.intro (by rfl) ?_)
        rintro w ⟨s0, s1, s2, s3⟩
        go_simp
        try rfl
      simp only [Act.put, List.setIfInBounds_toArray, List.set_cons_succ, List.set_cons_zero]
      refine wpAnyT_one' (i := 4) (by as_aux_lemma => kernel_rfl) rfl ?_
      go_wp2_with fail
      refine hNz.mono ?_
      rintro e w2 ⟨⟨B, cB, rfl, hrow, -⟩, hb2⟩
      generalize nthC l (k2 : Int) = c at *
      have HK := Lib.hid (cntOk_of HV.out hC)
      have HRW := Lib.hid hrow
      clear hrow hC
      go_wp2_with fail
      have hb02 := hbz.trans hb2
      refine ⟨HS.grow hb2, ?_⟩
      refine wpAnyT_one' (i := 5) (by as_aux_lemma => kernel_rfl) rfl ?_
      go_wp2_with fail
      refine (Right_c HV.out HK.out (HL.out.grow (hB.trans hb02)) (HRW.out.grow (G.refl _))).mono ?_
      rintro e w3 ⟨rfl, hb3⟩
      have hb03 := hb02.trans hb3
      have HO3 := Lib.hid (HO.out.grow (hb1.trans (gz.trans (hb2.trans hb3))))
      have hs3 := hb03.size
      have hS3 := k.grow hb03
      generalize rightN l c = rn at *
      go_wp2_with fail
      refine ⟨hS3, ?_⟩
      refine wpAnyT_one' (i := 6) (by as_aux_lemma => kernel_rfl) rfl ?_
      go_wp2_with fail
      have x4 := (G.refl w3).alloc (.cells #[.int .i64 rn] 3)
      have n4 := newCell w3 #[.int .i64 rn] 3 0 (v := .int .i64 rn) rfl
      have HO4 := Lib.hid (HO3.out.grow x4)
      have hb04 := hb03.trans x4
      generalize hm4 : w3.heap.size = m4 at *
      generalize w3.alloc _ = w4 at *
      have hs4 := hb04.size
      refine ⟨k.grow hb04, ?_⟩
      refine wpAnyT_one' (i := 7) (by as_aux_lemma => kernel_rfl) rfl ?_
      go_wp2_with (at_builtin; refine app_i W.heap.size rfl _ _ rfl _ _ _ rfl m4 rfl n4 HO4.out (by omega) hlen ?_; intro v1 w10 hown1 hg1 _)
      have HO2 := Lib.hid hown1
      have hb10 : G W w10 := hb04.grown hg1 (fun j hj => own_base HO4.out j hj)
      clear hown1 hg1
      go_wp2_with fail
      refine ⟨k.grow hb10, ?_⟩
      refine wpAnyT_close (by as_aux_lemma => kernel_rfl) ?_
      refine wpAny_part (k := 8) (n := 1) (f := 0) rfl rfl (by as_aux_lemma => kernel_rfl) ?_
      simp only [List.drop_succ_cons, List.drop_zero, List.take_succ_cons, List.take_zero]
      go_wp2_with fail
      refine wpAny_done (by as_aux_lemma => kernel_rfl) ?_
      go_wp2_with fail
      go_roundw
      case rel => exact ⟨k2 + 1, by omega, by go_num, by rw [Hid, HAS.out]; exact HO2.out, hb10⟩
      case measure => simp [intOf]; omega
    · go_wp2_with fail
      go_ret
      have hkk : k2 = (manyL l).toNat := by omega
      rw [← allTo_all, ← hkk]
      exact ⟨⟨_, rfl, (HO.out.grow hb1).lower hBs⟩, hB.trans hbr1⟩

set_option maxHeartbeats 8000000 in
theorem RStruck_c {l : Led} {A C T : Option Addr} {cA cC cT : Nat} {w : World} (hV : Valid l) (hL : LedR w l A C) (hT : RowI w T (refAll l)) :
    Calls Try.prog 67 #[ledV l A C cA cC, .slice T (refAll l).length cT] w fun e w' => (∃ v, e = .returned v ∧ OwnI w.heap.size w' v (struckTo l l.cs.length)) ∧ G w w' := by
  have HT := Lib.hid hT
  have HV := Lib.hid hV
  have hnc := hV.nc
  have hlA := refAll_len hV
  clear hL hT hV
  go_enter Try.func67, Try.ntmps67
  go_wp2_with fail
  have hB : G w (w.alloc (.cells #[.int .i64 l.lo, .int .i64 l.hi, .slice A l.gs.length cA, .slice C l.cs.length cC] 27)) := (G.refl _).alloc _
  have k := LBox.one (w := w) (l := l) (A := A) (C := C) (cA := cA) (cC := cC)
  generalize w.alloc _ = W at *
  have hBs := hB.size
  go_loopw [5, 6] (fun v5 v6 wr => ∃ (k : Nat), k ≤ l.cs.length ∧ v6 = .int .i64 k ∧ Hid (OwnI W.heap.size wr v5 (struckTo l k)) ∧ G W wr) (fun _ v6 _ => l.cs.length - (intOf v6).toNat)
  case atStart => exact ⟨0, by omega, rfl, OwnI.nil _ _, G.refl _⟩
  case round =>
    obtain ⟨k2, hk, rfl, HO, hbr⟩ := hrel
    obtain ⟨s0, s1, s2, s3⟩ := k.grow hbr
    have hbs := hbr.size
    by_cases hlt : k2 < l.cs.length
    · have HSS := Lib.hid (struckTo_succ l k2)
      have hcan := can_one HV.out hlt
      have hcall := Can_c T (refAll l) cT ((2 ^ k2 : Nat) : Int) wr (HT.out.grow (hB.trans hbr)) (by omega)
      rw [show ((refAll l).any fun x => bits .and .i64 x ((2 ^ k2 : Nat) : Int) == ((2 ^ k2 : Nat) : Int)) = anyR (oneC l k2) [] from hcan] at hcall
      have hlen : (struckTo l k2).length ≤ 100000000 := by have := struckTo_len l k2; omega
      clear hcan
      cases hany : anyR (oneC l k2) []
      · rw [hany] at hcall
        have HN := Lib.hid hany
        clear hany
        go_wp2_with fail
        rw [pow_w ⟨k2, by omega⟩]
        refine hcall.mono ?_
        rintro e w1 ⟨rfl, rfl⟩
        clear hcall
        go_wp2_with (at_builtin; refine app_i W.heap.size rfl _ _ rfl _ _ _ rfl wr.heap.size rfl (newCell _ _ _ _ rfl) (HO.out.grow ((G.refl wr).alloc _)) (by simp; omega) hlen ?_; intro v1 w10 hown1 hg1 _)
        have HO2 := Lib.hid hown1
        have hb10 : G W w10 := (hbr.alloc _).grown hg1 (fun j hj => own_base HO.out j hj)
        clear hown1 hg1
        go_wp2_with fail
        go_roundw
        case rel => exact ⟨k2 + 1, by omega, by go_num, by rw [Hid, HSS.out, HN.out]; exact HO2.out, hb10⟩
        case measure => simp [intOf] <;> omega
      · rw [hany] at hcall
        have HN := Lib.hid hany
        clear hany
        go_wp2_with fail
        rw [pow_w ⟨k2, by omega⟩]
        refine hcall.mono ?_
        rintro e w1 ⟨rfl, rfl⟩
        clear hcall
        go_wp2_with fail
        go_roundw
        case rel => exact ⟨k2 + 1, by omega, by go_num, by rw [Hid, HSS.out, HN.out]; exact HO.out, hbr⟩
        case measure => simp [intOf] <;> omega
    · obtain rfl : k2 = l.cs.length := by omega
      go_wp2_with fail
      go_ret
      exact ⟨⟨_, rfl, HO.out.lower hBs⟩, hB.trans hbr⟩

set_option maxHeartbeats 8000000 in
theorem RFirst_c {l : Led} {A C T : Option Addr} {cA cC cT : Nat} {w : World} (hV : Valid l) (hL : LedR w l A C) (hT : RowI w T (refAll l)) :
    Calls Try.prog 69 #[ledV l A C cA cC, .slice T (refAll l).length cT] w fun e w' => e = .returned (.int .i64 (refFirst l)) ∧ G w w' := by
  have HT := Lib.hid hT
  have HV := Lib.hid hV
  have hnc := hV.nc
  have hlA := refAll_len hV
  clear hL hT hV
  go_enter Try.func69, Try.ntmps69
  go_wp2_with fail
  have hB : G w (w.alloc (.cells #[.int .i64 l.lo, .int .i64 l.hi, .slice A l.gs.length cA, .slice C l.cs.length cC] 27)) := (G.refl _).alloc _
  have k := LBox.one (w := w) (l := l) (A := A) (C := C) (cA := cA) (cC := cC)
  generalize w.alloc _ = W at *
  go_loopw [5] (fun v5 wr => ∃ (k : Nat), k ≤ l.cs.length ∧ v5 = .int .i64 k ∧ Hid (∀ j, j < k → anyR (headC l j) [] = true) ∧ G W wr) (fun v5 _ => l.cs.length - (intOf v5).toNat)
  case atStart => exact ⟨0, by omega, rfl, fun j hj => by omega, G.refl _⟩
  case round =>
    obtain ⟨k2, hk, rfl, HO, hbr⟩ := hrel
    obtain ⟨s0, s1, s2, s3⟩ := k.grow hbr
    by_cases hlt : k2 < l.cs.length
    · have hcan := can_head HV.out hlt
      have hcall := Can_c T (refAll l) cT ((2 ^ (k2 + 1) - 1 : Nat) : Int) wr (HT.out.grow (hB.trans hbr)) (by omega)
      rw [show ((refAll l).any fun x => bits .and .i64 x ((2 ^ (k2 + 1) - 1 : Nat) : Int) == ((2 ^ (k2 + 1) - 1 : Nat) : Int)) = anyR (headC l k2) [] from hcan] at hcall
      clear hcan
      cases hany : anyR (headC l k2) []
      · rw [hany] at hcall
        have HN := Lib.hid hany
        clear hany
        go_wp2_with fail
        rw [shl2 ⟨k2, by omega⟩]
        refine hcall.mono ?_
        rintro e w1 ⟨rfl, rfl⟩
        clear hcall
        go_wp2_with fail
        go_ret
        exact ⟨by rw [refFirst_at HV.out hlt HO.out HN.out]; rfl, hB.trans hbr⟩
      · rw [hany] at hcall
        have HN := Lib.hid hany
        clear hany
        go_wp2_with fail
        rw [shl2 ⟨k2, by omega⟩]
        refine hcall.mono ?_
        rintro e w1 ⟨rfl, rfl⟩
        clear hcall
        go_wp2_with fail
        go_roundw
        case rel => exact ⟨k2 + 1, by omega, by go_num, fun j hj => by
          by_cases hj2 : j < k2
          · exact HO.out j hj2
          · obtain rfl : j = k2 := by omega
            exact HN.out, hbr⟩
        case measure => simp [intOf] <;> omega
    · obtain rfl : k2 = l.cs.length := by omega
      go_wp2_with fail
      go_ret
      exact ⟨by rw [(refFirst_no HV.out HO.out).1]; rfl, hB.trans hbr⟩

set_option maxHeartbeats 8000000 in
theorem RLeave_c {l : Led} {A C T : Option Addr} {cA cC cT : Nat} {w : World} (hV : Valid l) (hL : LedR w l A C) (hT : RowI w T (refAll l)) :
    Calls Try.prog 68 #[ledV l A C cA cC, .slice T (refAll l).length cT] w fun e w' => (∃ A' c', e = .returned (.slice A' (leaveL l).length c') ∧ RowI w' A' (leaveL l)) ∧ G w w' := by
  have HT := Lib.hid hT
  have HV := Lib.hid hV
  have hnc := hV.nc
  have hlA := refAll_len hV
  have hp : 2 ^ l.cs.length ≤ 2 ^ 5 := Nat.pow_le_pow_right (by omega) hnc
  have hp0 : 0 < 2 ^ l.cs.length := Nat.two_pow_pos _
  clear hL hT hV
  go_enter Try.func68, Try.ntmps68
  go_wp2_with fail
  have hB : G w (w.alloc (.cells #[.int .i64 l.lo, .int .i64 l.hi, .slice A l.gs.length cA, .slice C l.cs.length cC] 27)) := (G.refl _).alloc _
  have k := LBox.one (w := w) (l := l) (A := A) (C := C) (cA := cA) (cC := cC)
  generalize w.alloc _ = W at *
  obtain ⟨s0, s1, s2, s3⟩ := k
  have k := LBox.grow ⟨s0, s1, s2, s3⟩ (G.refl W)
  go_wp2_with fail
  refine (FullN_c l.lo l.hi A C l.gs.length l.cs.length cA cC W hnc).mono ?_
  rintro e w1 ⟨rfl, hb1⟩
  go_wp2_with fail
  refine (Bits_c (2 ^ l.cs.length - 1) w1 (by omega)).mono ?_
  rintro e w2 ⟨⟨v2, rfl, ho2⟩, hb2⟩
  obtain ⟨A2, c2, rfl, -, hr2⟩ := ho2.row
  have HR2 := Lib.hid hr2
  have hb := hb1.trans hb2
  clear ho2 hr2 hb1 hb2 s0 s1 s2 s3
  go_wp2_with fail
  go_loopw [5, 6] (fun v5 v6 wr => ∃ (k : Nat) (A5 : Option Addr) (c5 : Nat), k ≤ 2 ^ l.cs.length ∧ v6 = .int .i64 k ∧ v5 = .slice A5 (bitsL (bestTo l k)).length c5 ∧ Hid (RowI wr A5 (bitsL (bestTo l k))) ∧ G W wr) (fun _ v6 _ => 2 ^ l.cs.length - (intOf v6).toNat)
  case atStart => exact ⟨0, A2, c2, by omega, rfl, rfl, HR2.out, hb⟩
  case round =>
    obtain ⟨k2, A5, c5, hk, rfl, rfl, HO, hbr⟩ := hrel
    obtain ⟨s0, s1, s2, s3⟩ := k.grow hbr
    by_cases hlt : k2 < 2 ^ l.cs.length
    · have hle : (k2 : Int) ≤ ((2 ^ l.cs.length - 1 : Nat) : Int) := by omega
      have HBS := Lib.hid (show bestTo l (k2 + 1) = if shorterB (bitsL k2) (bitsL (bestTo l k2)) = true ∧ anyB l k2 = true then k2 else bestTo l k2 from rfl)
      have hcan := can_but HV.out hlt
      have hcall := fun (w1 : World) (h : G W w1) => Can_c T (refAll l) cT ((2 ^ l.cs.length - (k2 + 1) : Nat) : Int) w1 (HT.out.grow (hB.trans h)) (by omega)
      rw [show ((refAll l).any fun x => bits .and .i64 x ((2 ^ l.cs.length - (k2 + 1) : Nat) : Int) == ((2 ^ l.cs.length - (k2 + 1) : Nat) : Int)) = anyB l k2 from hcan] at hcall
      have hll := bitsL_len (bestTo l k2)
      have hl2 := bitsL_len k2
      generalize bestTo l k2 = b5 at *
      generalize anyB l k2 = any2 at *
      clear hcan
      go_wp2_with fail
      refine (FullN_c l.lo l.hi A C l.gs.length l.cs.length cA cC wr hnc).mono ?_
      rintro e w1 ⟨rfl, hb1⟩
      go_wp2_with fail
      refine (Bits_c k2 w1 (by omega)).mono ?_
      rintro e w3 ⟨⟨v3, rfl, ho3⟩, hb3⟩
      obtain ⟨A3, c3, rfl, -, hr3⟩ := ho3.row
      have HR3 := Lib.hid hr3
      have hb13 := hb1.trans hb3
      clear ho3 hr3 s0 s1 s2 s3
      go_wp2_with fail
      refine (Shorter_c HR3.out (HO.out.grow hb13) (by omega) (by omega)).mono ?_
      rintro e w4 ⟨rfl, hb4⟩
      have hb14 := hb13.trans hb4
      have hbr4 := hbr.trans hb14
      obtain ⟨s0, s1, s2, s3⟩ := k.grow hbr4
      cases hsh : shorterB (bitsL k2) (bitsL b5)
      · have HSH := Lib.hid hsh
        clear hsh
        go_wp2_with fail
        go_roundw
        case rel => exact ⟨k2 + 1, A5, c5, by omega, by go_num, by rw [HBS.out, HSH.out]; rfl, by rw [HBS.out, HSH.out]; exact HO.out.grow hb14, hbr4⟩
        case measure => simp [intOf] <;> omega
      · have HSH := Lib.hid hsh
        clear hsh
        go_wp2_with fail
        refine (FullN_c l.lo l.hi A C l.gs.length l.cs.length cA cC w4 hnc).mono ?_
        rintro e w5 ⟨rfl, hb5⟩
        go_wp2_with fail
        rw [andNot_tab ⟨l.cs.length, by omega⟩ ⟨k2, by omega⟩ hlt]
        refine (hcall w5 (hbr4.trans hb5)).mono ?_
        rintro e w6 ⟨rfl, rfl⟩
        cases any2
        · go_wp2_with fail
          go_roundw
          case rel => exact ⟨k2 + 1, A5, c5, by omega, by go_num, by rw [HBS.out, HSH.out]; rfl, by rw [HBS.out, HSH.out]; exact HO.out.grow (hb14.trans hb5), hbr4.trans hb5⟩
          case measure => simp [intOf] <;> omega
        · go_wp2_with fail
          go_roundw
          case rel => exact ⟨k2 + 1, A3, c3, by omega, by go_num, by rw [HBS.out, HSH.out]; rfl, by rw [HBS.out, HSH.out]; exact HR3.out.grow (hb4.trans hb5), hbr4.trans hb5⟩
          case measure => simp [intOf] <;> omega
    · obtain rfl : k2 = 2 ^ l.cs.length := by omega
      have hle : ¬ ((2 ^ l.cs.length : Nat) : Int) ≤ ((2 ^ l.cs.length - 1 : Nat) : Int) := by omega
      rw [bestTo_all HV.out] at HO ⊢
      generalize hpp : 2 ^ l.cs.length = pp at *
      go_wp2_with fail
      refine (FullN_c l.lo l.hi A C l.gs.length l.cs.length cA cC wr hnc).mono ?_
      rw [hpp]
      rintro e w1 ⟨rfl, hb1⟩
      clear hpp
      go_wp2_with fail
      go_ret
      exact ⟨⟨_, _, rfl, HO.out.grow hb1⟩, hB.trans (hbr.trans hb1)⟩
end Go.Proofs.Ytogdhkecpjndlaa.C
