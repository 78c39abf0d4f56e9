/- Two ledgers compared: ranges inside of others, verdicts kept, and the whole. -/
import Derived.Test.YtogdhkecpjndlaaQ10
import Derived.Test.YtogdhkecpjndlaaF3
import Derived.Test.YtogdhkecpjndlaaW8
set_option linter.unusedSimpArgs false
set_option linter.unusedVariables false
namespace Go.Proofs.Ytogdhkecpjndlaa.C
open Go.RowKit
set_option maxRecDepth 100000


set_option maxHeartbeats 4000000 in
theorem inside_c {A B : Option Addr} {cA cB n : Nat} {xs ys : List (Int × Int)} {w : World} (hX : Row2 w A xs) (hY : Row2 w B ys) (hx : xs.length = n) (hy : ys.length = n) (hn : n ≤ 100)
    (h : ∀ k (h1 : k < xs.length) (h2 : k < ys.length), ys[k].1 ≤ xs[k].1 ∧ xs[k].2 ≤ ys[k].2) :
    Calls Try.prog 105 #[.slice A n cA, .slice B n cB] w fun e w' => e = .returned (.bool true) ∧ G w w' := by
  have HX := Lib.hid hX
  have HY := Lib.hid hY
  have HH := Lib.hid h
  have HLX := Lib.hid hx
  have HLY := Lib.hid hy
  clear hX hY h hx hy
  have hnn : ((n : Int) != n) = false := by simp
  go_enter Try.func105, Try.ntmps105
  go_wp2_with fail
  clear hnn
  go_loopw [5] (fun v5 wr => ∃ (k : Nat), k ≤ n ∧ v5 = .int .i64 k ∧ G w wr) (fun v5 _ => n - (intOf v5).toNat)
  case atStart => exact ⟨0, by omega, rfl, G.refl _⟩
  case round =>
    obtain ⟨k, hk, rfl, hbr⟩ := hrel
    by_cases hlt : k < n
    · have h1 : k < xs.length := by rw [HLX.out]; exact hlt
      have h2 : k < ys.length := by rw [HLY.out]; exact hlt
      obtain ⟨b1, o1, rfl, d0, d1⟩ := HX.out.at h1
      obtain ⟨b2, o2, rfl, f0, f1⟩ := HY.out.at h2
      have e0 := hbr.cell d0
      have e1 := hbr.cell d1
      have e2 := hbr.cell f0
      have e3 := hbr.cell f1
      obtain ⟨hh1, hh2⟩ := HH.out k h1 h2
      clear d0 d1 f0 f1
      generalize xs[k] = x at *
      generalize ys[k] = y at *
      have q1 : (x.1 < y.1) = False := eq_false (by omega)
      have q2 : decide (x.1 < y.1) = false := decide_eq_false (by omega)
      have q3 : (y.2 < x.2) = False := eq_false (by omega)
      have q4 : decide (y.2 < x.2) = false := decide_eq_false (by omega)
      clear hh1 hh2 h1 h2
      go_wp2_with fail
      go_quiet (fail)
      go_wp2_with fail
      go_roundw
      case rel => exact ⟨k + 1, by omega, by go_num, hbr.drewN _⟩
      case measure => simp [intOf] <;> omega
    · go_wp2_with fail
      go_ret
      exact ⟨rfl, hbr⟩

set_option maxHeartbeats 4000000 in
theorem kept_c {A B : Option Addr} {cA cB n : Nat} {xs ys : List Int} {w : World} (hX : RowI w A xs) (hY : RowI w B ys) (hx : xs.length = n) (hy : ys.length = n) (hn : n ≤ 100)
    (h : ∀ k (h1 : k < xs.length) (h2 : k < ys.length), xs[k] ≠ 3 → xs[k] = ys[k]) :
    Calls Try.prog 106 #[.slice A n cA, .slice B n cB] w fun e w' => e = .returned (.bool true) ∧ G w w' := by
  have HX := Lib.hid hX
  have HY := Lib.hid hY
  have HH := Lib.hid h
  have HLX := Lib.hid hx
  have HLY := Lib.hid hy
  clear hX hY h hx hy
  have hnn : ((n : Int) != n) = false := by simp
  go_enter Try.func106, Try.ntmps106
  go_wp2_with fail
  clear hnn
  go_loopw [5] (fun v5 wr => ∃ (k : Nat), k ≤ n ∧ v5 = .int .i64 k ∧ G w wr) (fun v5 _ => n - (intOf v5).toNat)
  case atStart => exact ⟨0, by omega, rfl, G.refl _⟩
  case round =>
    obtain ⟨k, hk, rfl, hbr⟩ := hrel
    by_cases hlt : k < n
    · have h1 : k < xs.length := by rw [HLX.out]; exact hlt
      have h2 : k < ys.length := by rw [HLY.out]; exact hlt
      obtain ⟨b1, o1, rfl, d0⟩ := HX.out.at h1
      obtain ⟨b2, o2, rfl, f0⟩ := HY.out.at h2
      have e0 := hbr.cell d0
      have e2 := hbr.cell f0
      have hh := HH.out k h1 h2
      clear d0 f0
      generalize xs[k] = x at *
      generalize ys[k] = y at *
      clear h1 h2
      by_cases h3 : x = 3
      · have q1 : (x != 3) = false := by simp [h3]
        clear h3 hh
        go_wp2_with fail
        go_quiet (fail)
        go_wp2_with fail
        go_roundw
        case rel => exact ⟨k + 1, by omega, by go_num, hbr.drewN _⟩
        case measure => simp [intOf] <;> omega
      · obtain rfl : x = y := hh h3
        have q1 : (x != 3) = true := by simp [h3]
        have q2 : (x != x) = false := by simp
        clear h3 hh
        go_wp2_with fail
        go_quiet (fail)
        go_wp2_with fail
        go_roundw
        case rel => exact ⟨k + 1, by omega, by go_num, hbr.drewN _⟩
        case measure => simp [intOf] <;> omega
    · go_wp2_with fail
      go_ret
      exact ⟨rfl, hbr⟩

set_option maxHeartbeats 16000000 in
theorem closer_c {x l : Led} {A C B D : Option Addr} {cA cC cB cD : Nat} {sum : Int} {w : World} (hC : Closer x l) (hX : LedR w x A C) (hL : LedR w l B D) (h0 : 0 ≤ sum) (h1 : sum ≤ 9999) :
    Calls Try.prog 65 #[ledV x A C cA cC, ledV l B D cB cD, .int .i64 sum] w fun e w' => e = .returned (.bool true) ∧ G w w' := by
  have HC := Lib.hid hC
  have HX0 := Lib.hid hX
  have HL0 := Lib.hid hL
  have hxg := hC.vx.ng
  have hxc := hC.vx.nc
  have hlg := hC.vl.ng
  have hlc := hC.vl.nc
  have HEX := Lib.hid hC.ax
  have HEL := Lib.hid hC.al
  have hin : inB sum 0 9999 = true := inB_iff.2 ⟨h0, h1⟩
  have HEXS := Lib.hid (show askErr x (inB sum 0 9999) = 0 by rw [hin]; exact hC.ax)
  have HELS := Lib.hid (show askErr l (inB sum 0 9999) = 0 by rw [hin]; exact hC.al)
  have hlx : x.gs.length ≤ 30 ∧ x.cs.length ≤ 30 ∧ l.gs.length ≤ 30 ∧ l.cs.length ≤ 30 := by omega
  clear hC hX hL hin
  go_enter Try.func65, Try.ntmps65
  go_wp2_with fail
  obtain ⟨W, hW⟩ : ∃ W : World, (w.alloc (.cells (cells4 x A C cA cC) 27)).alloc (.cells (cells4 l B D cB cD) 27) = W := ⟨_, rfl⟩
  obtain ⟨hB, k1, k2⟩ := boxes2 hW
  rw [hW]
  have HK := Lib.hid (show LBox W w.heap.size x A C cA cC ∧ LBox W (w.heap.size + 1) l B D cB cD from ⟨⟨k1 0 _ rfl, k1 1 _ rfl, k1 2 _ rfl, k1 3 _ rfl⟩, k2 0 _ rfl, k2 1 _ rfl, k2 2 _ rfl, k2 3 _ rfl⟩)
  clear k1 k2 hW
  obtain ⟨⟨s0, s1, s2, s3⟩, t0, t1, t2, t3⟩ := HK.out
  -- Ledger of x A C cA cC (its LedR HX0.out.grow hB at the world W), to m0 by mb0; lengths by omega; HX: the new LedR
  go_wp2_with fail
  refine (Ledger_c x A C cA cC W (HX0.out.grow hB) (by omega) (by omega)).mono ?_
  rintro e m0 ⟨⟨AX, CX, cAX, cCX, rfl, hLX, hcA, hcC⟩, mb0⟩
  have HX := Lib.hid hLX
  clear hLX
  go_wp2_with fail
  refine (Bounds_c x AX CX cAX cCX m0 HX.out (by omega) (by omega)).mono ?_
  rw [HEX.out]
  rintro e w0 ⟨⟨v0, rfl, ho0⟩, hb0⟩
  obtain ⟨R0, q0, rfl, -, hr0⟩ := Own2.row ho0
  have HR0 := Lib.hid hr0
  clear ho0 hr0
  have kb0 := mb0.trans hb0
  -- both boxes kept over kb0; growth hB renewed to g0
  replace HK := Lib.hid (show LBox _ _ _ _ _ _ _ ∧ LBox _ _ _ _ _ _ _ from ⟨HK.out.1.grow (kb0), HK.out.2.grow (kb0)⟩)
  have g0 := (hB).trans (kb0)
  clear s0 s1 s2 s3 t0 t1 t2 t3
  obtain ⟨⟨s0, s1, s2, s3⟩, t0, t1, t2, t3⟩ := HK.out
  clear HX hcA hcC mb0 hb0 
  -- Ledger of l B D cB cD (its LedR HL0.out.grow g0 at the world w0), to m1 by mb1; lengths by omega; HX: the new LedR
  go_wp2_with fail
  refine (Ledger_c l B D cB cD w0 (HL0.out.grow g0) (by omega) (by omega)).mono ?_
  rintro e m1 ⟨⟨AX, CX, cAX, cCX, rfl, hLX, hcA, hcC⟩, mb1⟩
  have HX := Lib.hid hLX
  clear hLX
  go_wp2_with fail
  refine (Bounds_c l AX CX cAX cCX m1 HX.out (by omega) (by omega)).mono ?_
  rw [HEL.out]
  rintro e w1 ⟨⟨v1, rfl, ho1⟩, hb1⟩
  obtain ⟨R1, q1, rfl, -, hr1⟩ := Own2.row ho1
  have HR1 := Lib.hid hr1
  clear ho1 hr1
  have kb1 := mb1.trans hb1
  -- both boxes kept over kb1; growth g0 renewed to g1
  replace HK := Lib.hid (show LBox _ _ _ _ _ _ _ ∧ LBox _ _ _ _ _ _ _ from ⟨HK.out.1.grow (kb1), HK.out.2.grow (kb1)⟩)
  have g1 := (g0).trans (kb1)
  clear s0 s1 s2 s3 t0 t1 t2 t3
  obtain ⟨⟨s0, s1, s2, s3⟩, t0, t1, t2, t3⟩ := HK.out
  clear HX hcA hcC mb1 hb1 g0
  -- Ledger of x A C cA cC (its LedR HX0.out.grow g1 at the world w1), to m2 by mb2; lengths by omega; HX: the new LedR
  go_wp2_with fail
  refine (Ledger_c x A C cA cC w1 (HX0.out.grow g1) (by omega) (by omega)).mono ?_
  rintro e m2 ⟨⟨AX, CX, cAX, cCX, rfl, hLX, hcA, hcC⟩, mb2⟩
  have HX := Lib.hid hLX
  clear hLX
  go_wp2_with fail
  refine (Rate_c x AX CX cAX cCX m2 HX.out (by omega) (by omega)).mono ?_
  rw [HEX.out]
  rintro e y2 ⟨rfl, hy2⟩
  go_upto_region 4 with fail
  have n2 : Blk (y2.alloc (.cells #[.int .i64 (rateL x).1, .int .i64 (rateL x).2] 34)) y2.heap.size 34 #[.int .i64 (rateL x).1, .int .i64 (rateL x).2] := Blk.new _ _ _
  have hb2 := hy2.alloc (.cells #[.int .i64 (rateL x).1, .int .i64 (rateL x).2] 34)
  have HR2 := Lib.hid n2
  generalize hp2 : y2.heap.size = p2 at *
  generalize hw2 : y2.alloc _ = w2 at *
  clear hp2 hw2 n2 hy2
  have kb2 := mb2.trans hb2
  -- both boxes kept over kb2; growth g1 renewed to g2
  replace HK := Lib.hid (show LBox _ _ _ _ _ _ _ ∧ LBox _ _ _ _ _ _ _ from ⟨HK.out.1.grow (kb2), HK.out.2.grow (kb2)⟩)
  have g2 := (g1).trans (kb2)
  clear s0 s1 s2 s3 t0 t1 t2 t3
  obtain ⟨⟨s0, s1, s2, s3⟩, t0, t1, t2, t3⟩ := HK.out
  clear HX hcA hcC mb2 hb2 g1
  -- Ledger of l B D cB cD (its LedR HL0.out.grow g2 at the world w2), to m3 by mb3; lengths by omega; HX: the new LedR
  go_wp2_with fail
  refine (Ledger_c l B D cB cD w2 (HL0.out.grow g2) (by omega) (by omega)).mono ?_
  rintro e m3 ⟨⟨AX, CX, cAX, cCX, rfl, hLX, hcA, hcC⟩, mb3⟩
  have HX := Lib.hid hLX
  clear hLX
  go_wp2_with fail
  refine (Rate_c l AX CX cAX cCX m3 HX.out (by omega) (by omega)).mono ?_
  rw [HEL.out]
  rintro e y3 ⟨rfl, hy3⟩
  go_upto_region 5 with fail
  have n3 : Blk (y3.alloc (.cells #[.int .i64 (rateL l).1, .int .i64 (rateL l).2] 34)) y3.heap.size 34 #[.int .i64 (rateL l).1, .int .i64 (rateL l).2] := Blk.new _ _ _
  have hb3 := hy3.alloc (.cells #[.int .i64 (rateL l).1, .int .i64 (rateL l).2] 34)
  have HR3 := Lib.hid n3
  generalize hp3 : y3.heap.size = p3 at *
  generalize hw3 : y3.alloc _ = w3 at *
  clear hp3 hw3 n3 hy3
  have kb3 := mb3.trans hb3
  -- both boxes kept over kb3; growth g2 renewed to g3
  replace HK := Lib.hid (show LBox _ _ _ _ _ _ _ ∧ LBox _ _ _ _ _ _ _ from ⟨HK.out.1.grow (kb3), HK.out.2.grow (kb3)⟩)
  have g3 := (g2).trans (kb3)
  clear s0 s1 s2 s3 t0 t1 t2 t3
  obtain ⟨⟨s0, s1, s2, s3⟩, t0, t1, t2, t3⟩ := HK.out
  clear HX hcA hcC mb3 hb3 g2
  -- Ledger of x A C cA cC (its LedR HX0.out.grow g3 at the world w3), to m4 by mb4; lengths by omega; HX: the new LedR
  go_wp2_with fail
  refine (Ledger_c x A C cA cC w3 (HX0.out.grow g3) (by omega) (by omega)).mono ?_
  rintro e m4 ⟨⟨AX, CX, cAX, cCX, rfl, hLX, hcA, hcC⟩, mb4⟩
  have HX := Lib.hid hLX
  clear hLX
  go_wp2_with fail
  refine (Clear_c x AX CX cAX cCX m4 HX.out (by omega) (by omega)).mono ?_
  rw [HEX.out]
  rintro e w4 ⟨⟨v4, rfl, ho4⟩, hb4⟩
  obtain ⟨R4, q4, rfl, -, hr4⟩ := ho4.row
  have HR4 := Lib.hid hr4
  clear ho4 hr4
  have kb4 := mb4.trans hb4
  -- both boxes kept over kb4; growth g3 renewed to g4
  replace HK := Lib.hid (show LBox _ _ _ _ _ _ _ ∧ LBox _ _ _ _ _ _ _ from ⟨HK.out.1.grow (kb4), HK.out.2.grow (kb4)⟩)
  have g4 := (g3).trans (kb4)
  clear s0 s1 s2 s3 t0 t1 t2 t3
  obtain ⟨⟨s0, s1, s2, s3⟩, t0, t1, t2, t3⟩ := HK.out
  clear HX hcA hcC mb4 hb4 g3
  -- Ledger of l B D cB cD (its LedR HL0.out.grow g4 at the world w4), to m5 by mb5; lengths by omega; HX: the new LedR
  go_wp2_with fail
  refine (Ledger_c l B D cB cD w4 (HL0.out.grow g4) (by omega) (by omega)).mono ?_
  rintro e m5 ⟨⟨AX, CX, cAX, cCX, rfl, hLX, hcA, hcC⟩, mb5⟩
  have HX := Lib.hid hLX
  clear hLX
  go_wp2_with fail
  refine (Clear_c l AX CX cAX cCX m5 HX.out (by omega) (by omega)).mono ?_
  rw [HEL.out]
  rintro e w5 ⟨⟨v5, rfl, ho5⟩, hb5⟩
  obtain ⟨R5, q5, rfl, -, hr5⟩ := ho5.row
  have HR5 := Lib.hid hr5
  clear ho5 hr5
  have kb5 := mb5.trans hb5
  -- both boxes kept over kb5; growth g4 renewed to g5
  replace HK := Lib.hid (show LBox _ _ _ _ _ _ _ ∧ LBox _ _ _ _ _ _ _ from ⟨HK.out.1.grow (kb5), HK.out.2.grow (kb5)⟩)
  have g5 := (g4).trans (kb5)
  clear s0 s1 s2 s3 t0 t1 t2 t3
  obtain ⟨⟨s0, s1, s2, s3⟩, t0, t1, t2, t3⟩ := HK.out
  clear HX hcA hcC mb5 hb5 g4
  -- Ledger of x A C cA cC (its LedR HX0.out.grow g5 at the world w5), to m6 by mb6; lengths by omega; HX: the new LedR
  go_wp2_with fail
  refine (Ledger_c x A C cA cC w5 (HX0.out.grow g5) (by omega) (by omega)).mono ?_
  rintro e m6 ⟨⟨AX, CX, cAX, cCX, rfl, hLX, hcA, hcC⟩, mb6⟩
  have HX := Lib.hid hLX
  clear hLX
  go_wp2_with fail
  refine (Full_c x AX CX cAX cCX m6 HX.out (by omega) (by omega)).mono ?_
  rw [HEX.out]
  rintro e w6 ⟨rfl, hb6⟩
  have kb6 := mb6.trans hb6
  -- both boxes kept over kb6; growth g5 renewed to g6
  replace HK := Lib.hid (show LBox _ _ _ _ _ _ _ ∧ LBox _ _ _ _ _ _ _ from ⟨HK.out.1.grow (kb6), HK.out.2.grow (kb6)⟩)
  have g6 := (g5).trans (kb6)
  clear s0 s1 s2 s3 t0 t1 t2 t3
  obtain ⟨⟨s0, s1, s2, s3⟩, t0, t1, t2, t3⟩ := HK.out
  clear HX hcA hcC mb6 hb6 g5
  -- Ledger of l B D cB cD (its LedR HL0.out.grow g6 at the world w6), to m7 by mb7; lengths by omega; HX: the new LedR
  go_wp2_with fail
  refine (Ledger_c l B D cB cD w6 (HL0.out.grow g6) (by omega) (by omega)).mono ?_
  rintro e m7 ⟨⟨AX, CX, cAX, cCX, rfl, hLX, hcA, hcC⟩, mb7⟩
  have HX := Lib.hid hLX
  clear hLX
  go_wp2_with fail
  refine (Full_c l AX CX cAX cCX m7 HX.out (by omega) (by omega)).mono ?_
  rw [HEL.out]
  rintro e w7 ⟨rfl, hb7⟩
  have kb7 := mb7.trans hb7
  -- both boxes kept over kb7; growth g6 renewed to g7
  replace HK := Lib.hid (show LBox _ _ _ _ _ _ _ ∧ LBox _ _ _ _ _ _ _ from ⟨HK.out.1.grow (kb7), HK.out.2.grow (kb7)⟩)
  have g7 := (g6).trans (kb7)
  clear s0 s1 s2 s3 t0 t1 t2 t3
  obtain ⟨⟨s0, s1, s2, s3⟩, t0, t1, t2, t3⟩ := HK.out
  clear HX hcA hcC mb7 hb7 g6
  -- Ledger of x A C cA cC (its LedR HX0.out.grow g7 at the world w7), to m8 by mb8; lengths by omega; HX: the new LedR
  go_wp2_with fail
  refine (Ledger_c x A C cA cC w7 (HX0.out.grow g7) (by omega) (by omega)).mono ?_
  rintro e m8 ⟨⟨AX, CX, cAX, cCX, rfl, hLX, hcA, hcC⟩, mb8⟩
  have HX := Lib.hid hLX
  clear hLX
  go_wp2_with fail
  refine (Least_c x AX CX cAX cCX sum m8 HX.out (by omega) (by omega)).mono ?_
  rw [HEXS.out]
  rintro e w8 ⟨⟨v8, rfl, ho8⟩, hb8⟩
  obtain ⟨R8, q8, rfl, -, hr8⟩ := ho8.row
  have HR8 := Lib.hid hr8
  clear ho8 hr8
  have kb8 := mb8.trans hb8
  -- both boxes kept over kb8; growth g7 renewed to g8
  replace HK := Lib.hid (show LBox _ _ _ _ _ _ _ ∧ LBox _ _ _ _ _ _ _ from ⟨HK.out.1.grow (kb8), HK.out.2.grow (kb8)⟩)
  have g8 := (g7).trans (kb8)
  clear s0 s1 s2 s3 t0 t1 t2 t3
  obtain ⟨⟨s0, s1, s2, s3⟩, t0, t1, t2, t3⟩ := HK.out
  clear HX hcA hcC mb8 hb8 g7
  -- Ledger of l B D cB cD (its LedR HL0.out.grow g8 at the world w8), to m9 by mb9; lengths by omega; HX: the new LedR
  go_wp2_with fail
  refine (Ledger_c l B D cB cD w8 (HL0.out.grow g8) (by omega) (by omega)).mono ?_
  rintro e m9 ⟨⟨AX, CX, cAX, cCX, rfl, hLX, hcA, hcC⟩, mb9⟩
  have HX := Lib.hid hLX
  clear hLX
  go_wp2_with fail
  refine (Least_c l AX CX cAX cCX sum m9 HX.out (by omega) (by omega)).mono ?_
  rw [HELS.out]
  rintro e w9 ⟨⟨v9, rfl, ho9⟩, hb9⟩
  obtain ⟨R9, q9, rfl, -, hr9⟩ := ho9.row
  have HR9 := Lib.hid hr9
  clear ho9 hr9
  have kb9 := mb9.trans hb9
  -- both boxes kept over kb9; growth g8 renewed to g9
  replace HK := Lib.hid (show LBox _ _ _ _ _ _ _ ∧ LBox _ _ _ _ _ _ _ from ⟨HK.out.1.grow (kb9), HK.out.2.grow (kb9)⟩)
  have g9 := (g8).trans (kb9)
  clear s0 s1 s2 s3 t0 t1 t2 t3
  obtain ⟨⟨s0, s1, s2, s3⟩, t0, t1, t2, t3⟩ := HK.out
  clear HX hcA hcC mb9 hb9 g8
  replace HR0 := Lib.hid (HR0.out.grow (kb1.trans (kb2.trans (kb3.trans (kb4.trans (kb5.trans (kb6.trans (kb7.trans (kb8.trans (kb9))))))))))
  replace HR1 := Lib.hid (HR1.out.grow (kb2.trans (kb3.trans (kb4.trans (kb5.trans (kb6.trans (kb7.trans (kb8.trans (kb9)))))))))
  replace HR2 := Lib.hid (HR2.out.grow (kb3.trans (kb4.trans (kb5.trans (kb6.trans (kb7.trans (kb8.trans (kb9))))))))
  replace HR3 := Lib.hid (HR3.out.grow (kb4.trans (kb5.trans (kb6.trans (kb7.trans (kb8.trans (kb9)))))))
  replace HR4 := Lib.hid (HR4.out.grow (kb5.trans (kb6.trans (kb7.trans (kb8.trans (kb9))))))
  replace HR5 := Lib.hid (HR5.out.grow (kb6.trans (kb7.trans (kb8.trans (kb9)))))
  replace HR8 := Lib.hid (HR8.out.grow (kb9))
  clear kb0 kb1 kb2 kb3 kb4 kb5 kb6 kb7 kb8 kb9 s0 s1 s2 s3 t0 t1 t2 t3 HK HX0 HL0
  have hb0 := boundL_length HEX.out
  have hb1 := boundL_length HEL.out
  have hc0 := clearL_length HEX.out
  have hc1 := clearL_length HEL.out
  have hl0 := least_len HEXS.out
  have hl1 := least_len HELS.out
  have hgg := HC.out.ng
  rw [hgg] at hb0 hc0 hl0
  rw [hb0, hb1, hc0, hc1, hl0, hl1]
  have HB0 := Lib.hid hb0
  have HB1 := Lib.hid hb1
  have HC0 := Lib.hid hc0
  have HC1 := Lib.hid hc1
  have hcall1 := fun (z : World) (h : G w9 z) => inside_c (cA := q0) (cB := q1) (w := z) (HR0.out.grow h) (HR1.out.grow h) HB0.out HB1.out (by omega) (fun k h1 h2 => by rw [boundL_get HEX.out, boundL_get HEL.out]; have := HC.out.due k; exact ⟨this.1, this.2.1⟩)
  have hcall2 := fun (z : World) (h : G w9 z) => kept_c (cA := q5) (cB := q4) (w := z) (HR5.out.grow h) (HR4.out.grow h) HC1.out HC0.out (by omega) (fun k h1 h2 h3 => by rw [clearL_get HEL.out] at h3 ⊢; rw [clearL_get HEX.out]; exact HC.out.verdict k h3)
  obtain ⟨hr1, hr2⟩ := HC.out.rate
  have hfu := HC.out.full
  have HLE := Lib.hid (fun (k : Nat) (hk : k < l.gs.length) => HC.out.least h0 h1 hk)
  have HLL0 := Lib.hid hl0
  have HLL1 := Lib.hid hl1
  clear hb0 hb1 hc0 hc1 hl0 hl1 hgg
  have d0 := HR2.out.cell 0 (v := .int .i64 (rateL x).1) rfl
  have d1 := HR2.out.cell 1 (v := .int .i64 (rateL x).2) rfl
  have d2 := HR3.out.cell 0 (v := .int .i64 (rateL l).1) rfl
  have d3 := HR3.out.cell 1 (v := .int .i64 (rateL l).2) rfl
  have HD0 := Lib.hid d0
  have HD1 := Lib.hid d1
  have HD2 := Lib.hid d2
  have HD3 := Lib.hid d3
  generalize rateL x = rx at *
  generalize rateL l = rl at *
  generalize fullL x = fx at *
  generalize fullL l = fl at *
  have hnn : ((l.gs.length : Int) != l.gs.length) = false := by simp
  have z1 : ¬ rx.1 < rl.1 := by omega
  have z2 : ¬ rl.2 < rx.2 := by omega
  have z3 : ¬ fl < fx := by omega
  go_wp2_with fail
  refine (hcall1 _ (G.refl _)).mono ?_
  rintro e w20 ⟨rfl, hb20⟩
  clear d0 d1 d2 d3
  have d0 := hb20.cell HD0.out
  have d1 := hb20.cell HD1.out
  have d2 := hb20.cell HD2.out
  have d3 := hb20.cell HD3.out
  go_wp2_with fail
  refine (hcall2 _ hb20).mono ?_
  rintro e w21 ⟨rfl, hb21⟩
  have gb := hb20.trans hb21
  clear d0 d1 d2 d3 hcall1 hcall2
  go_wp2_with fail
  clear hnn z1 z2 z3
  go_loopw [27] (fun v27 wr => ∃ (k : Nat), k ≤ l.gs.length ∧ v27 = .int .i64 k ∧ G w9 wr) (fun v27 _ => l.gs.length - (intOf v27).toNat)
  case atStart => exact ⟨0, by omega, rfl, gb⟩
  case round =>
    obtain ⟨k, hk, rfl, hbr⟩ := hrel
    by_cases hlt : k < l.gs.length
    · have hki : (k : Int) < l.gs.length := by omega
      have h2 : k < (leastL x sum).length := by rw [HLL0.out]; exact hlt
      have h3 : k < (leastL l sum).length := by rw [HLL1.out]; exact hlt
      obtain ⟨b1, o1, rfl, f1⟩ := HR8.out.at h2
      obtain ⟨b2, o2, rfl, f2⟩ := HR9.out.at h3
      have e1 := hbr.cell f1
      have e2 := hbr.cell f2
      have hle := HLE.out k hlt
      rw [getD_of h2, getD_of h3] at hle
      clear f1 f2
      generalize (leastL x sum)[k] = p at *
      generalize (leastL l sum)[k] = q at *
      have q1 : (p < q) = False := eq_false (by omega)
      have q2 : decide (p < q) = false := decide_eq_false (by omega)
      clear h2 h3 hle
      go_wp2_with fail
      go_quiet (fail)
      go_wp2_with fail
      go_roundw
      case rel => exact ⟨k + 1, by omega, by go_num, hbr.drewN _⟩
      case measure => simp [intOf] <;> omega
    · go_wp2_with fail
      go_ret
      exact ⟨rfl, g9.trans hbr⟩
end Go.Proofs.Ytogdhkecpjndlaa.C
