/- Texts joined: L7. -/
import Derived.Test.YtogdhkecpjndlaaGL
set_option linter.unusedSimpArgs false
set_option linter.unusedVariables false
/- The document's first examples are returned: awake is true. -/
namespace Go.Proofs.Ytogdhkecpjndlaa.C
open Go.RowKit
set_option maxRecDepth 100000

theorem sameT_c (A : Option Addr) (cA b n : Nat) (xs : List Int) (w : World) (hX : RowI w A xs) (hY : Blk w b 3 (ints xs).toArray) (hl : xs.length ≤ 1000000) (hn : xs.length = n) :
    Calls Try.prog 32 #[.slice A n cA, .slice (some ⟨b, 0, none⟩) n n] w fun e w' => e = .returned (.bool true) ∧ G w w' := by
  subst hn
  have h := same_c A (some ⟨b, 0, none⟩) cA xs.length xs xs w hX (BlkI.row hY) hl hl
  rw [decide_eq_true rfl] at h
  exact h
set_option maxHeartbeats 8000000 in
theorem awake_c (w : World) : Calls Try.prog 22 #[] w fun e w' => e = .returned (.bool true) ∧ G w w' := by
  go_enter Try.func22, Try.ntmps22
  go_wp2_with fail
  refine (three_c none 0 [] w Row3.nil).mono ?_
  rintro e w1 ⟨⟨b1, rfl, -, hL1⟩, h1⟩
  have HL1 := Lib.hid hL1
  clear hL1
  go_wp2_with fail
  refine (most_c w1).mono ?_
  rintro e w2 ⟨⟨B2, c2, rfl, hr2⟩, h2⟩
  have HR2 := Lib.hid hr2
  clear hr2
  go_wp2_with fail
  refine (exPlay_c _ B2 c2 w2 (HL1.out.grow h2) HR2.out).mono ?_
  rintro e w3 ⟨⟨A3, c3, rfl, hr3⟩, h3⟩
  have HR3 := Lib.hid hr3
  have g3 := h1.trans (h2.trans h3)
  clear hr3 h1 h2 h3 HL1 HR2
  go_wp2_with fail
  refine (mkClaim_c 1 1 w3).mono ?_
  rintro e w4 ⟨rfl, h4⟩
  go_wp2_with fail
  have n4 : Blk (w4.alloc (.cells #[.int .i64 1, .int .i64 1, .int .i64 1] 110)) w4.heap.size 110 #[.int .i64 1, .int .i64 1, .int .i64 1] := Blk.new _ _ _
  have h4' := h4.alloc (.cells #[.int .i64 1, .int .i64 1, .int .i64 1] 110)
  generalize w4.alloc _ = v4 at *
  refine (three_c (some ⟨w4.heap.size, 0, none⟩) 1 [⟨1, 1, 1⟩] v4 (row3_of (xs := [⟨1, 1, 1⟩]) n4)).mono ?_
  rintro e w5 ⟨⟨b5, rfl, -, hL5⟩, h5⟩
  have HL5 := Lib.hid hL5
  clear hL5 n4
  go_wp2_with fail
  refine (exBounds_c _ _ w5 HL5.out).mono ?_
  rintro e w6 ⟨⟨A6, c6, rfl, hr6⟩, h6⟩
  have HR6 := Lib.hid hr6
  have g6 := h4'.trans (h5.trans h6)
  clear hr6 h4 h4' h5 h6 HL5
  go_wp2_with fail
  refine (three_c none 0 [] w6 Row3.nil).mono ?_
  rintro e w7 ⟨⟨b7, rfl, -, hL7⟩, h7⟩
  have HL7 := Lib.hid hL7
  clear hL7
  go_wp2_with fail
  refine (exClear_c _ w7 HL7.out).mono ?_
  rintro e w8 ⟨⟨A8, c8, rfl, hr8⟩, h8⟩
  have HR8 := Lib.hid hr8
  have g8 := h7.trans h8
  clear hr8 h7 h8 HL7
  go_wp2_with fail
  refine (three_c none 0 [] w8 Row3.nil).mono ?_
  rintro e w9 ⟨⟨b9, rfl, -, hL9⟩, h9⟩
  have HL9 := Lib.hid hL9
  clear hL9
  go_wp2_with fail
  refine (exAsk_c _ w9 HL9.out).mono ?_
  rintro e w10 ⟨rfl, h10⟩
  have g10 := h9.trans h10
  clear h9 h10 HL9
  go_wp2_with fail
  refine (three_c none 0 [] w10 Row3.nil).mono ?_
  rintro e w11 ⟨⟨b11, rfl, -, hL11⟩, h11⟩
  have HL11 := Lib.hid hL11
  clear hL11
  go_wp2_with fail
  refine (most_c w11).mono ?_
  rintro e w12 ⟨⟨B12, c12, rfl, hr12⟩, h12⟩
  have HR12 := Lib.hid hr12
  clear hr12
  go_wp2_with fail
  refine (exShare_c _ B12 c12 w12 (HL11.out.grow h12) HR12.out).mono ?_
  rintro e w13 ⟨⟨A13, c13, rfl, hr13⟩, h13⟩
  have HR13 := Lib.hid hr13
  have g13 := h11.trans (h12.trans h13)
  clear hr13 h11 h12 h13 HL11 HR12
  go_wp2_with fail
  refine (three_c none 0 [] w13 Row3.nil).mono ?_
  rintro e w14 ⟨⟨b14, rfl, -, hL14⟩, h14⟩
  have HL14 := Lib.hid hL14
  clear hL14
  go_wp2_with fail
  refine (exLeast_c _ w14 HL14.out).mono ?_
  rintro e w15 ⟨⟨A15, c15, rfl, hr15⟩, h15⟩
  have HR15 := Lib.hid hr15
  have g15 := h14.trans h15
  clear hr15 h14 h15 HL14
  go_wp2_with fail
  refine (three_c none 0 [] w15 Row3.nil).mono ?_
  rintro e w16 ⟨⟨b16, rfl, -, hL16⟩, h16⟩
  have HL16 := Lib.hid hL16
  clear hL16
  go_wp2_with fail
  refine (exFull_c _ w16 HL16.out).mono ?_
  rintro e w17 ⟨rfl, h17⟩
  have g17 := h16.trans h17
  clear h16 h17 HL16
  go_wp2_with fail
  refine (none_c w17).mono ?_
  rintro e w18 ⟨⟨b18, C18, rfl, hL18⟩, h18⟩
  have HL18 := Lib.hid hL18
  clear hL18
  go_wp2_with fail
  refine (exStruck_c _ _ w18 HL18.out).mono ?_
  rintro e w19 ⟨⟨A19, c19, rfl, hr19⟩, h19⟩
  have HR19 := Lib.hid hr19
  have g19 := h18.trans h19
  clear hr19 h18 h19 HL18
  go_wp2_with fail
  refine (none_c w19).mono ?_
  rintro e w20 ⟨⟨b20, C20, rfl, hL20⟩, h20⟩
  have HL20 := Lib.hid hL20
  clear hL20
  go_wp2_with fail
  refine (exLeave_c _ _ w20 HL20.out).mono ?_
  rintro e w21 ⟨⟨A21, c21, rfl, hr21⟩, h21⟩
  have HR21 := Lib.hid hr21
  have g21 := h20.trans h21
  clear hr21 h20 h21 HL20
  go_wp2_with fail
  have G0 : G w w21 := g3.trans (g6.trans (g8.trans (g10.trans (g13.trans (g15.trans (g17.trans (g19.trans g21)))))))
  have R3 := Lib.hid (HR3.out.grow (g6.trans (g8.trans (g10.trans (g13.trans (g15.trans (g17.trans (g19.trans g21))))))))
  have R6 := Lib.hid (HR6.out.grow (g8.trans (g10.trans (g13.trans (g15.trans (g17.trans (g19.trans g21)))))))
  have R8 := Lib.hid (HR8.out.grow (g10.trans (g13.trans (g15.trans (g17.trans (g19.trans g21))))))
  have R13 := Lib.hid (HR13.out.grow (g15.trans (g17.trans (g19.trans g21))))
  have R15 := Lib.hid (HR15.out.grow (g17.trans (g19.trans g21)))
  have R19 := Lib.hid (HR19.out.grow g21)
  have R21 := Lib.hid HR21.out
  clear HR3 HR6 HR8 HR13 HR15 HR19 HR21 g3 g6 g8 g10 g13 g15 g17 g19 g21
  refine wp_region_A (by as_aux_lemma => kernel_rfl) ?_
  obtain ⟨z, hz⟩ : ∃ z : World, z = { w21 with drawn := w21.drawn + 1 } := ⟨_, rfl⟩
  rw [← hz]
  have gz : G w21 z := by rw [hz]; exact (G.refl _).drew
  clear hz
  have HS : True := trivial
  refine wpAny_part (k := 0) (n := 3) (f := 100) rfl rfl (by as_aux_lemma => kernel_rfl) ?_
  simp only [List.drop_succ_cons, List.drop_zero, List.take_succ_cons, List.take_zero]
  go_wp2_with fail
  refine wpAny_fork (fun _ => True) 5 ?_
  refine wpAnyU_take (i := 3) (v := .slice A3 3 c3) rfl (by as_aux_lemma => kernel_rfl) (fun _ _ _ h => h) HS (Or.inl ⟨by rfl, ?_⟩) ?_
  · rintro w s0
    go_simp
  simp only [Act.put, List.setIfInBounds_toArray, List.set_cons_succ, List.set_cons_zero]
  refine wpAnyT_one (i := 4) (by as_aux_lemma => kernel_rfl) rfl ?_
  go_wp2_with fail
  refine ⟨trivial, ?_⟩
  refine wpAnyT_close (by as_aux_lemma => kernel_rfl) ?_
  have n1 : Blk (z.alloc (.cells #[.int .i64 18, .int .i64 1, .int .i64 9] 3)) z.heap.size 3 #[.int .i64 18, .int .i64 1, .int .i64 9] := Blk.new _ _ _
  have x1 := gz.alloc (.cells #[.int .i64 18, .int .i64 1, .int .i64 9] 3)
  generalize z.alloc _ = y1 at *
  refine wpAny_part (k := 5) (n := 12) (f := 86) rfl rfl (by as_aux_lemma => kernel_rfl) ?_
  simp only [List.drop_succ_cons, List.drop_zero, List.take_succ_cons, List.take_zero]
  go_wp2_with fail
  refine (sameT_c A3 c3 z.heap.size 3 [18, 1, 9] y1 (R3.out.grow x1) n1 (by decide) rfl).mono ?_
  rintro e z1 ⟨rfl, s1⟩
  have G1 := x1.trans s1
  clear n1 x1 s1
  go_wp2_with fail
  obtain ⟨p2, q2, e2, a2, d2⟩ := R6.out 0 (11, 18) rfl
  subst e2
  have HS : z1.cell? ⟨p2, q2 + 0 * 2, none⟩ = some (.int .i64 11) ∧ z1.cell? ⟨p2, q2 + 0 * 2 + 1, none⟩ = some (.int .i64 18) := ⟨G1.cell a2, G1.cell d2⟩
  simp only [Nat.zero_mul, Nat.one_mul, Nat.reduceMul, Nat.add_zero, Nat.add_assoc, Nat.reduceAdd] at HS
  clear a2 d2
  refine wpAny_fork (fun w' => w'.cell? ⟨p2, q2, none⟩ = some (.int .i64 11) ∧ w'.cell? ⟨p2, q2 + 1, none⟩ = some (.int .i64 18)) 21 ?_
  refine wpAnyU_take (i := 17) (v := .slice (some ⟨p2, q2, none⟩) 3 c6) rfl (by as_aux_lemma => kernel_rfl) (fun _ _ _ h => h) HS (Or.inl ⟨by rfl, ?_⟩) ?_
  · rintro w ⟨s0, s1⟩
    go_simp
  simp only [Act.put, List.setIfInBounds_toArray, List.set_cons_succ, List.set_cons_zero]
  refine wpAnyU_take (i := 18) (v := .pointer (some ⟨p2, q2, none⟩)) rfl (by as_aux_lemma => kernel_rfl) (fun _ _ _ h => h) HS (Or.inl ⟨by rfl, ?_⟩) ?_
  · rintro w ⟨s0, s1⟩
    go_simp
  simp only [Act.put, List.setIfInBounds_toArray, List.set_cons_succ, List.set_cons_zero]
  refine wpAnyU_take (i := 19) (v := .agg #[.int .i64 11, .int .i64 18]) rfl (by as_aux_lemma => kernel_rfl) (fun _ _ _ h => h) HS (Or.inl ⟨by rfl, ?_⟩) ?_
  · rintro w ⟨s0, s1⟩
    go_simp
  simp only [Act.put, List.setIfInBounds_toArray, List.set_cons_succ, List.set_cons_zero]
  refine wpAnyT_one (i := 20) (by as_aux_lemma => kernel_rfl) rfl ?_
  go_wp2_with fail
  refine (rng_c 11 18 z1).mono ?_
  rintro e z2 ⟨rfl, s2⟩
  go_wp2_with fail
  refine ⟨⟨s2.cell HS.1, s2.cell HS.2⟩, ?_⟩
  refine wpAnyT_close (by as_aux_lemma => kernel_rfl) ?_
  have G2 := G1.trans s2
  clear s2 HS
  have heq := fun w => eq34 11 18 11 18 w
  have hb1 : (((11 : Int) == 11) && ((18 : Int) == 18)) = true := by decide
  simp only [hb1] at heq
  clear hb1
  refine wpAny_part (k := 21) (n := 3) (f := 79) rfl rfl (by as_aux_lemma => kernel_rfl) ?_
  simp only [List.drop_succ_cons, List.drop_zero, List.take_succ_cons, List.take_zero]
  go_wp2_with fail
  clear heq
  obtain ⟨p3, q3, e3, a3, d3⟩ := R6.out 1 (1, 1) rfl
  cases e3
  have HS : z2.cell? ⟨p2, q2 + 1 * 2, none⟩ = some (.int .i64 1) ∧ z2.cell? ⟨p2, q2 + 1 * 2 + 1, none⟩ = some (.int .i64 1) := ⟨G2.cell a3, G2.cell d3⟩
  simp only [Nat.zero_mul, Nat.one_mul, Nat.reduceMul, Nat.add_zero, Nat.add_assoc, Nat.reduceAdd] at HS
  clear a3 d3
  refine wpAny_fork (fun w' => w'.cell? ⟨p2, q2 + 2, none⟩ = some (.int .i64 1) ∧ w'.cell? ⟨p2, q2 + 3, none⟩ = some (.int .i64 1)) 28 ?_
  refine wpAnyU_take (i := 24) (v := .slice (some ⟨p2, q2, none⟩) 3 c6) rfl (by as_aux_lemma => kernel_rfl) (fun _ _ _ h => h) HS (Or.inl ⟨by rfl, ?_⟩) ?_
  · rintro w ⟨s0, s1⟩
    go_simp
  simp only [Act.put, List.setIfInBounds_toArray, List.set_cons_succ, List.set_cons_zero]
  refine wpAnyU_take (i := 25) (v := .pointer (some ⟨p2, q2 + 2, none⟩)) rfl (by as_aux_lemma => kernel_rfl) (fun _ _ _ h => h) HS (Or.inl ⟨by rfl, ?_⟩) ?_
  · rintro w ⟨s0, s1⟩
    go_simp
  simp only [Act.put, List.setIfInBounds_toArray, List.set_cons_succ, List.set_cons_zero]
  refine wpAnyU_take (i := 26) (v := .agg #[.int .i64 1, .int .i64 1]) rfl (by as_aux_lemma => kernel_rfl) (fun _ _ _ h => h) HS (Or.inl ⟨by rfl, ?_⟩) ?_
  · rintro w ⟨s0, s1⟩
    go_simp
  simp only [Act.put, List.setIfInBounds_toArray, List.set_cons_succ, List.set_cons_zero]
  refine wpAnyT_one (i := 27) (by as_aux_lemma => kernel_rfl) rfl ?_
  go_wp2_with fail
  refine (rng_c 1 1 z2).mono ?_
  rintro e z3 ⟨rfl, s3⟩
  go_wp2_with fail
  refine ⟨⟨s3.cell HS.1, s3.cell HS.2⟩, ?_⟩
  refine wpAnyT_close (by as_aux_lemma => kernel_rfl) ?_
  have G3 := G2.trans s3
  clear s3 HS
  have heq := fun w => eq34 1 1 1 1 w
  have hb1 : (((1 : Int) == 1) && ((1 : Int) == 1)) = true := by decide
  simp only [hb1] at heq
  clear hb1
  refine wpAny_part (k := 28) (n := 3) (f := 72) rfl rfl (by as_aux_lemma => kernel_rfl) ?_
  simp only [List.drop_succ_cons, List.drop_zero, List.take_succ_cons, List.take_zero]
  go_wp2_with fail
  clear heq
  obtain ⟨p4, q4, e4, a4, d4⟩ := R6.out 2 (2, 9) rfl
  cases e4
  have HS : z3.cell? ⟨p2, q2 + 2 * 2, none⟩ = some (.int .i64 2) ∧ z3.cell? ⟨p2, q2 + 2 * 2 + 1, none⟩ = some (.int .i64 9) := ⟨G3.cell a4, G3.cell d4⟩
  simp only [Nat.zero_mul, Nat.one_mul, Nat.reduceMul, Nat.add_zero, Nat.add_assoc, Nat.reduceAdd] at HS
  clear a4 d4
  refine wpAny_fork (fun w' => w'.cell? ⟨p2, q2 + 4, none⟩ = some (.int .i64 2) ∧ w'.cell? ⟨p2, q2 + 5, none⟩ = some (.int .i64 9)) 35 ?_
  refine wpAnyU_take (i := 31) (v := .slice (some ⟨p2, q2, none⟩) 3 c6) rfl (by as_aux_lemma => kernel_rfl) (fun _ _ _ h => h) HS (Or.inl ⟨by rfl, ?_⟩) ?_
  · rintro w ⟨s0, s1⟩
    go_simp
  simp only [Act.put, List.setIfInBounds_toArray, List.set_cons_succ, List.set_cons_zero]
  refine wpAnyU_take (i := 32) (v := .pointer (some ⟨p2, q2 + 4, none⟩)) rfl (by as_aux_lemma => kernel_rfl) (fun _ _ _ h => h) HS (Or.inl ⟨by rfl, ?_⟩) ?_
  · rintro w ⟨s0, s1⟩
    go_simp
  simp only [Act.put, List.setIfInBounds_toArray, List.set_cons_succ, List.set_cons_zero]
  refine wpAnyU_take (i := 33) (v := .agg #[.int .i64 2, .int .i64 9]) rfl (by as_aux_lemma => kernel_rfl) (fun _ _ _ h => h) HS (Or.inl ⟨by rfl, ?_⟩) ?_
  · rintro w ⟨s0, s1⟩
    go_simp
  simp only [Act.put, List.setIfInBounds_toArray, List.set_cons_succ, List.set_cons_zero]
  refine wpAnyT_one (i := 34) (by as_aux_lemma => kernel_rfl) rfl ?_
  go_wp2_with fail
  refine (rng_c 2 9 z3).mono ?_
  rintro e z4 ⟨rfl, s4⟩
  go_wp2_with fail
  refine ⟨⟨s4.cell HS.1, s4.cell HS.2⟩, ?_⟩
  refine wpAnyT_close (by as_aux_lemma => kernel_rfl) ?_
  have G4 := G3.trans s4
  clear s4 HS
  have heq := fun w => eq34 2 9 2 9 w
  have hb1 : (((2 : Int) == 2) && ((9 : Int) == 9)) = true := by decide
  simp only [hb1] at heq
  clear hb1
  refine wpAny_part (k := 35) (n := 7) (f := 61) rfl rfl (by as_aux_lemma => kernel_rfl) ?_
  simp only [List.drop_succ_cons, List.drop_zero, List.take_succ_cons, List.take_zero]
  go_wp2_with fail
  clear heq
  have HS : True := trivial
  refine wpAny_fork (fun _ => True) 44 ?_
  refine wpAnyU_take (i := 42) (v := .slice A8 3 c8) rfl (by as_aux_lemma => kernel_rfl) (fun _ _ _ h => h) HS (Or.inl ⟨by rfl, ?_⟩) ?_
  · rintro w s0
    go_simp
  simp only [Act.put, List.setIfInBounds_toArray, List.set_cons_succ, List.set_cons_zero]
  refine wpAnyT_one (i := 43) (by as_aux_lemma => kernel_rfl) rfl ?_
  go_wp2_with fail
  refine ⟨trivial, ?_⟩
  refine wpAnyT_close (by as_aux_lemma => kernel_rfl) ?_
  have n5 : Blk (z4.alloc (.cells #[.int .i64 1, .int .i64 3, .int .i64 1] 3)) z4.heap.size 3 #[.int .i64 1, .int .i64 3, .int .i64 1] := Blk.new _ _ _
  have x5 := G4.alloc (.cells #[.int .i64 1, .int .i64 3, .int .i64 1] 3)
  generalize z4.alloc _ = y5 at *
  refine wpAny_part (k := 44) (n := 19) (f := 40) rfl rfl (by as_aux_lemma => kernel_rfl) ?_
  simp only [List.drop_succ_cons, List.drop_zero, List.take_succ_cons, List.take_zero]
  go_wp2_with fail
  refine (sameT_c A8 c8 z4.heap.size 3 [1, 3, 1] y5 (R8.out.grow x5) n5 (by decide) rfl).mono ?_
  rintro e z5 ⟨rfl, s5⟩
  have G5 := x5.trans s5
  clear n5 x5 s5
  go_wp2_with fail
  refine wpAny_fork (fun _ => True) 65 ?_
  refine wpAnyU_take (i := 63) (v := .slice A13 3 c13) rfl (by as_aux_lemma => kernel_rfl) (fun _ _ _ h => h) HS (Or.inl ⟨by rfl, ?_⟩) ?_
  · rintro w s0
    go_simp
  simp only [Act.put, List.setIfInBounds_toArray, List.set_cons_succ, List.set_cons_zero]
  refine wpAnyT_one (i := 64) (by as_aux_lemma => kernel_rfl) rfl ?_
  go_wp2_with fail
  refine ⟨trivial, ?_⟩
  refine wpAnyT_close (by as_aux_lemma => kernel_rfl) ?_
  have n6 : Blk (z5.alloc (.cells #[.int .i64 7, .int .i64 0, .int .i64 3] 3)) z5.heap.size 3 #[.int .i64 7, .int .i64 0, .int .i64 3] := Blk.new _ _ _
  have x6 := G5.alloc (.cells #[.int .i64 7, .int .i64 0, .int .i64 3] 3)
  generalize z5.alloc _ = y6 at *
  refine wpAny_part (k := 65) (n := 7) (f := 31) rfl rfl (by as_aux_lemma => kernel_rfl) ?_
  simp only [List.drop_succ_cons, List.drop_zero, List.take_succ_cons, List.take_zero]
  go_wp2_with fail
  refine (sameT_c A13 c13 z5.heap.size 3 [7, 0, 3] y6 (R13.out.grow x6) n6 (by decide) rfl).mono ?_
  rintro e z6 ⟨rfl, s6⟩
  have G6 := x6.trans s6
  clear n6 x6 s6
  go_wp2_with fail
  refine wpAny_fork (fun _ => True) 74 ?_
  refine wpAnyU_take (i := 72) (v := .slice A15 3 c15) rfl (by as_aux_lemma => kernel_rfl) (fun _ _ _ h => h) HS (Or.inl ⟨by rfl, ?_⟩) ?_
  · rintro w s0
    go_simp
  simp only [Act.put, List.setIfInBounds_toArray, List.set_cons_succ, List.set_cons_zero]
  refine wpAnyT_one (i := 73) (by as_aux_lemma => kernel_rfl) rfl ?_
  go_wp2_with fail
  refine ⟨trivial, ?_⟩
  refine wpAnyT_close (by as_aux_lemma => kernel_rfl) ?_
  have n7 : Blk (z6.alloc (.cells #[.int .i64 5, .int .i64 0, .int .i64 1] 3)) z6.heap.size 3 #[.int .i64 5, .int .i64 0, .int .i64 1] := Blk.new _ _ _
  have x7 := G6.alloc (.cells #[.int .i64 5, .int .i64 0, .int .i64 1] 3)
  generalize z6.alloc _ = y7 at *
  refine wpAny_part (k := 74) (n := 15) (f := 14) rfl rfl (by as_aux_lemma => kernel_rfl) ?_
  simp only [List.drop_succ_cons, List.drop_zero, List.take_succ_cons, List.take_zero]
  go_wp2_with fail
  refine (sameT_c A15 c15 z6.heap.size 3 [5, 0, 1] y7 (R15.out.grow x7) n7 (by decide) rfl).mono ?_
  rintro e z7 ⟨rfl, s7⟩
  have G7 := x7.trans s7
  clear n7 x7 s7
  go_wp2_with fail
  refine wpAny_fork (fun _ => True) 91 ?_
  refine wpAnyU_take (i := 89) (v := .slice A19 2 c19) rfl (by as_aux_lemma => kernel_rfl) (fun _ _ _ h => h) HS (Or.inl ⟨by rfl, ?_⟩) ?_
  · rintro w s0
    go_simp
  simp only [Act.put, List.setIfInBounds_toArray, List.set_cons_succ, List.set_cons_zero]
  refine wpAnyT_one (i := 90) (by as_aux_lemma => kernel_rfl) rfl ?_
  go_wp2_with fail
  refine ⟨trivial, ?_⟩
  refine wpAnyT_close (by as_aux_lemma => kernel_rfl) ?_
  have n8 : Blk (z7.alloc (.cells #[.int .i64 0, .int .i64 1] 3)) z7.heap.size 3 #[.int .i64 0, .int .i64 1] := Blk.new _ _ _
  have x8 := G7.alloc (.cells #[.int .i64 0, .int .i64 1] 3)
  generalize z7.alloc _ = y8 at *
  refine wpAny_part (k := 91) (n := 7) (f := 5) rfl rfl (by as_aux_lemma => kernel_rfl) ?_
  simp only [List.drop_succ_cons, List.drop_zero, List.take_succ_cons, List.take_zero]
  go_wp2_with fail
  refine (sameT_c A19 c19 z7.heap.size 2 [0, 1] y8 (R19.out.grow x8) n8 (by decide) rfl).mono ?_
  rintro e z8 ⟨rfl, s8⟩
  have G8 := x8.trans s8
  clear n8 x8 s8
  go_wp2_with fail
  refine wpAny_fork (fun _ => True) 100 ?_
  refine wpAnyU_take (i := 98) (v := .slice A21 2 c21) rfl (by as_aux_lemma => kernel_rfl) (fun _ _ _ h => h) HS (Or.inl ⟨by rfl, ?_⟩) ?_
  · rintro w s0
    go_simp
  simp only [Act.put, List.setIfInBounds_toArray, List.set_cons_succ, List.set_cons_zero]
  refine wpAnyT_one (i := 99) (by as_aux_lemma => kernel_rfl) rfl ?_
  go_wp2_with fail
  refine ⟨trivial, ?_⟩
  refine wpAnyT_close (by as_aux_lemma => kernel_rfl) ?_
  have n9 : Blk (z8.alloc (.cells #[.int .i64 0, .int .i64 1] 3)) z8.heap.size 3 #[.int .i64 0, .int .i64 1] := Blk.new _ _ _
  have x9 := G8.alloc (.cells #[.int .i64 0, .int .i64 1] 3)
  generalize z8.alloc _ = y9 at *
  refine wpAny_part (k := 100) (n := 3) (f := 0) rfl rfl (by as_aux_lemma => kernel_rfl) ?_
  simp only [List.drop_succ_cons, List.drop_zero, List.take_succ_cons, List.take_zero]
  go_wp2_with fail
  refine (sameT_c A21 c21 z8.heap.size 2 [0, 1] y9 (R21.out.grow x9) n9 (by decide) rfl).mono ?_
  rintro e z9 ⟨rfl, s9⟩
  have G9 := x9.trans s9
  clear n9 x9 s9
  go_wp2_with fail
  refine wpAny_done (by as_aux_lemma => kernel_rfl) ?_
  go_wp2_with fail
  go_ret
  exact ⟨rfl, G0.trans G9⟩
end Go.Proofs.Ytogdhkecpjndlaa.C
