/- The laws' helpers: one of some words; a ledger with other claims. -/
import Derived.Test.YtogdhkecpjndlaaQ11
import Derived.Test.YtogdhkecpjndlaaK1
import Derived.Test.YtogdhkecpjndlaaA3
import Derived.Test.YtogdhkecpjndlaaW3
import Derived.Test.YtogdhkecpjndlaaR5
set_option linter.unusedSimpArgs false
set_option linter.unusedVariables false
namespace Go.Proofs.Ytogdhkecpjndlaa.C
open Go.RowKit
set_option maxRecDepth 100000


theorem tmod_nat4 {t n g : Nat} (h : t % n = g) : ((t : Int)).tmod (n : Int) = (g : Int) := by
  rw [Int.tmod_eq_emod_of_nonneg (by omega), ← h]
  rfl
theorem RowW.grow {w w1 : World} {A : Option Addr} {xs : List Int} (h : RowW w A xs) (hb : G w w1) : RowW w1 A xs := fun j x hj => by
  obtain ⟨b, off, e, h0⟩ := h j x hj
  exact ⟨b, off, e, hb.cell h0⟩
theorem word_c {A : Option Addr} {cA : Nat} {ws : List Int} {at' : Nat} {w : World} (hW : RowW w A ws) (hm : ws.length ≤ maxLen) (hU : ∀ x ∈ ws, 0 ≤ x ∧ x ≤ 65535) (ha : at' ≤ 1000) :
    Calls Try.prog 90 #[.slice A ws.length cA, .int .i64 at'] w fun e w' => e = .returned (.int .i64 (wordN ws at')) ∧ w = w' := by
  by_cases h0 : ws.length = 0
  · have hz : (((ws.length : Nat) : Int) == 0) = true := by simp [h0]
    have he : ws = [] := List.eq_nil_of_length_eq_zero h0
    subst he
    go_enter Try.func90, Try.ntmps90
    go_wp2_with fail
    go_ret
    exact ⟨by rw [wordN_nil]; rfl, rfl⟩
  · have hz : (((ws.length : Nat) : Int) == 0) = false := beq_eq_false_iff_ne.2 (by omega)
    have hnz : ¬ ((ws.length : Int) = 0) := by omega
    obtain ⟨j, hj⟩ : ∃ j, at' % ws.length = j := ⟨_, rfl⟩
    have htm := tmod_nat4 hj
    have hjl : j < ws.length := by rw [← hj]; exact Nat.mod_lt _ (by omega)
    have hja : j ≤ 1000 := by rw [← hj]; exact Nat.le_trans (Nat.mod_le _ _) ha
    have hw2 : IntKind.i64.wrap (j : Int) = j := IntWalk.i64_in _ (by omega)
    obtain ⟨b, off, rfl, hc⟩ := hW j ws[j] (List.getElem?_eq_getElem hjl)
    have hb := hU ws[j] (List.getElem_mem hjl)
    have hv : wordN ws at' = ws[j].toNat := by unfold wordN; rw [hj]; simp [List.getD, hjl]
    rw [hv]
    have hmx : (ws.length : Int) ≤ 9223372036854775807 := by unfold maxLen at hm; omega
    obtain ⟨x, hx⟩ : ∃ x : Nat, ws[j] = x := ⟨ws[j].toNat, by omega⟩
    rw [hx] at hc hb ⊢
    have hw3 : IntKind.i64.wrap (x : Int) = x := IntWalk.i64_in _ (by omega)
    clear hv hj hx hU hm hW
    go_enter Try.func90, Try.ntmps90
    go_wp2_with fail
    go_ret
    exact ⟨rfl, rfl⟩
theorem CBox.far2 {w : World} {n : Nat} {c : Cn} {B : Option Addr} {cB : Nat} (h : CBox w n c B cB) {p : Addr} (hp : n ≠ p.block) (v : Value) : CBox (w.setCell p v) n c B cB := by
  obtain ⟨h0, h1⟩ := h
  refine ⟨?_, ?_⟩ <;> rw [World.cell?_setCell_other _ _ _ _ (fun h => hp (congrArg Addr.block h).symm)] <;> assumption
theorem RowI.far {w : World} {B : Option Addr} {xs : List Int} (h : RowI w B xs) {p : Addr} (hp : ∀ b off, B = some ⟨b, off, none⟩ → b ≠ p.block) (v : Value) : RowI (w.setCell p v) B xs := fun j x hj => by
  obtain ⟨b, off, e, h0⟩ := h j x hj
  refine ⟨b, off, e, ?_⟩
  rw [World.cell?_setCell_other _ _ _ _ (fun h => hp b off e (congrArg Addr.block h).symm)]
  exact h0

set_option maxHeartbeats 16000000 in
theorem Claimed_c {l : Led} {A C D : Option Addr} {cA cC cD : Nat} {a : Int} {ws : List Int} {w : World} (hV : Valid l) (hL : LedR w l A C) (hD : RowW w D ws) (hm : ws.length ≤ maxLen) (hU : ∀ x ∈ ws, 0 ≤ x ∧ x ≤ 65535) (ha2 : 0 ≤ a ∧ a ≤ 65535) :
    Calls Try.prog 46 #[ledV l A C cA cC, .int .u16 a, .slice D ws.length cD] w fun e w' => (∃ B cB C1 c1, e = .returned (.tuple #[ledV (claimedL l (nthC l (a % manyL l)) ws) A C1 cA c1, cnV (nthC l (a % manyL l)) B cB]) ∧ LedR w' (claimedL l (nthC l (a % manyL l)) ws) A C1 ∧ RowI w' B (nthC l (a % manyL l)).bs) ∧ G w w' := by
  have HL := Lib.hid hL
  have HV := Lib.hid hV
  have HD := Lib.hid hD
  have HLN := Lib.hid hm
  have HU := Lib.hid hU
  have hng := hV.ng
  have hr0 := hV.r0
  have hr1 := hV.r1
  have hr2 := hV.r2
  have hmp := manyL_pos hV
  have HVM : Hid (∀ g ∈ l.gs, 0 ≤ g.lo ∧ g.lo ≤ g.hi ∧ g.hi ≤ 1000) := fun g hg => by have := hV.g g hg; omega
  have HM : Hid (many 3000 (l.hi - l.lo + 1) l.gs = manyL l) := rfl
  clear hL hV hD hm hU
  go_enter Try.func46, Try.ntmps46
  go_upto_region 1 with fail
  obtain ⟨W, hW⟩ : ∃ W : World, ((w.alloc (.cells (cells4 l A C cA cC) 27)).alloc (.cells #[.int .i64 0, .int .i64 0, .slice none 0 0, .slice none 0 0] 27)).alloc (.cells #[.int .i64 0, .slice none 0 0] 49) = W := ⟨_, rfl⟩
  have hN1 : Blk W (w.heap.size + 1) 27 #[.int .i64 0, .int .i64 0, .slice none 0 0, .slice none 0 0] := by rw [← hW]; exact Blk.grow (Blk.new' (by simp)) ((G.refl _).alloc _)
  have hN2 : Blk W (w.heap.size + 1 + 1) 49 #[.int .i64 0, .slice none 0 0] := by rw [← hW]; exact Blk.new' (by simp)
  obtain ⟨hB, k1, -, -⟩ := boxes3 hW
  rw [hW]
  have hK : LBox W w.heap.size l A C cA cC := ⟨k1 0 _ rfl, k1 1 _ rfl, k1 2 _ rfl, k1 3 _ rfl⟩
  have HK := Lib.hid hK
  have HN1 := Lib.hid hN1
  have HN2 := Lib.hid hN2
  have hwl := hN2.lt
  clear k1 hW hN1 hN2 hK
  have htm : a.tmod (manyL l) = a % manyL l := Int.tmod_eq_emod_of_nonneg ha2.1
  have hnz : ¬ manyL l = 0 := by omega
  have hq := mod_bd (m := a) hmp.1
  have hq0 : 0 ≤ a % manyL l := hq.1
  have hq1 : a % manyL l ≤ 1000000 := by omega
  have hw3 : IntKind.i64.wrap (a % manyL l) = a % manyL l := IntWalk.i64_in _ (by omega)
  have hw1 : IntKind.i64.wrap a = a := IntWalk.i64_in _ (by omega)
  go_cut [8] (fun v8 wc => ∃ (n8 : Nat) (B : Option Addr) (cB : Nat), v8 = .pointer (some ⟨n8, 0, none⟩) ∧ W.heap.size ≤ n8 ∧ Blk wc n8 49 (cells2c (nthC l (a % manyL l)) B cB) ∧ RowI wc B (nthC l (a % manyL l)).bs ∧ (∀ b off, B = some ⟨b, off, none⟩ → W.heap.size ≤ b) ∧ G W wc)
  case first =>
    refine wp_region_A (by as_aux_lemma => kernel_rfl) ?_
    obtain ⟨z, hz⟩ : ∃ z : World, z = { W with drawn := W.drawn + 1 } := ⟨_, rfl⟩
    rw [← hz]
    have gz : G W z := by rw [hz]; exact (G.refl _).drew
    clear hz
    have HSG := Lib.hid (fun (w' : World) (h : G z w') => HK.out.grow (gz.trans h))
    have HS := HSG.out z (G.refl _)
    refine wpAny_fork (fun w' => LBox w' w.heap.size l A C cA cC) 8 ?_
    refine wpAnyU_takes' (i := 0) rfl (by as_aux_lemma => kernel_rfl) (fun _ _ _ _ h => h) HS ?_
    apply Exists.intro
    apply And.intro
    · refine Or.inl (And.intro (by rfl) ?_)
      rintro w ⟨s0, s1, s2, s3⟩
      go_simp
      try rfl
    simp only [Act.put, List.setIfInBounds_toArray, List.set_cons_succ, List.set_cons_zero]
    refine wpAnyU_takes' (i := 1) rfl (by as_aux_lemma => kernel_rfl) (fun _ _ _ _ h => h) HS ?_
    apply Exists.intro
    apply And.intro
    · refine Or.inl (And.intro (by rfl) ?_)
      rintro w ⟨s0, s1, s2, s3⟩
      go_simp
      try rfl
    simp only [Act.put, List.setIfInBounds_toArray, List.set_cons_succ, List.set_cons_zero]
    refine wpAnyU_takes' (i := 2) rfl (by as_aux_lemma => kernel_rfl) (fun _ _ _ _ h => h) HS ?_
    apply Exists.intro
    apply And.intro
    · refine Or.inl (And.intro (by rfl) ?_)
      rintro w ⟨s0, s1, s2, s3⟩
      go_simp
      try rfl
    simp only [Act.put, List.setIfInBounds_toArray, List.set_cons_succ, List.set_cons_zero]
    refine wpAnyU_takes' (i := 3) rfl (by as_aux_lemma => kernel_rfl) (fun _ _ _ _ h => h) HS ?_
    apply Exists.intro
    apply And.intro
    · refine Or.inl (And.intro (by rfl) ?_)
      rintro w ⟨s0, s1, s2, s3⟩
      go_simp
      try rfl
    simp only [Act.put, List.setIfInBounds_toArray, List.set_cons_succ, List.set_cons_zero]
    clear HS
    refine wpAnyT_two2 (i := 4) (j := 7) (by as_aux_lemma => kernel_rfl) rfl rfl ?_ ?_
    · go_wp2_with fail
      refine (Many_c l.lo l.hi A (.slice C l.cs.length cC) l.gs cA z (by omega) (by omega) (by omega) (HL.out.g.grow (hB.trans (gz.trans (G.refl z)))) HVM.out (by omega)).mono ?_
      rw [HM.out]
      rintro e w1 ⟨rfl, h1⟩
      go_wp2_with fail
      have g1 := (G.refl z).trans h1
      refine ⟨HSG.out w1 (g1), ?_⟩
      have HS := HSG.out w1 (g1)
      refine wpAnyU_takes' (i := 5) rfl (by as_aux_lemma => kernel_rfl) (fun _ _ _ _ h => h) HS ?_
      apply Exists.intro
      apply And.intro
      · refine Or.inl (And.intro (by rfl) ?_)
        rintro w ⟨s0, s1, s2, s3⟩
        go_simp
        try rfl
      simp only [Act.put, List.setIfInBounds_toArray, List.set_cons_succ, List.set_cons_zero]
      clear HS
      refine wpAnyT_two2 (i := 6) (j := 7) (by as_aux_lemma => kernel_rfl) rfl rfl ?_ ?_
      · go_wp2_with fail
        refine (Nth_c HV.out (HL.out.g.grow (hB.trans (gz.trans (g1)))) hq0 hq1).mono ?_
        rintro e w2 ⟨⟨B, cB, rfl, hrow, hnew⟩, h2⟩
        go_wp2_with fail
        have g2 := (g1).trans h2
        have hbz : ∀ b off, B = some ⟨b, off, none⟩ → W.heap.size ≤ b := fun b off e => by have h3 := hnew b off e; have h4 := gz.size; have h5 := (g1).size; omega
        refine ⟨HSG.out w2 (g2), ?_⟩
        have hB7 := Lib.hid hrow
        refine wpAnyT_one' (i := 7) (by as_aux_lemma => kernel_rfl) rfl ?_
        -- the count's box m7: from w2 (grown from z by g2) to w3, by g3
        go_wp2_with fail
        have n7 := Blk.new w2 #[.int .i64 0, .slice none 0 0] 49
        have g3 := (g2).alloc (.cells #[.int .i64 0, .slice none 0 0] 49)
        have gm := (G.refl w2).alloc (.cells #[.int .i64 0, .slice none 0 0] 49)
        have hsm := (g2).size
        generalize hm7 : w2.heap.size = m7 at *
        generalize hw7 : w2.alloc _ = w3 at *
        have hz7 : W.heap.size ≤ m7 := by have h1 := gz.size; have h2 := (g2).size; omega
        have hk1 : w2.heap.size ≤ m7 := by omega
        have hk2 : m7 ≤ w2.heap.size := by omega
        clear hm7 hw7 hsm
        refine ⟨HSG.out w3 (g3), ?_⟩
        -- all is there in the world w3, grown from z by g3; the box G.refl w3, the row's growth gm; the blocks differ by (obtain ⟨p, q, e3, h3⟩ := hB7.out i x hx); have h4 := cell_lt h3; rw [e] at e3; cases e3; omega
        refine wpAnyT_close (by as_aux_lemma => kernel_rfl) ?_
        refine wpAny_part (k := 8) (n := 1) (f := 0) rfl rfl (by as_aux_lemma => kernel_rfl) ?_
        simp only [List.drop_succ_cons, List.drop_zero, List.take_succ_cons, List.take_zero]
        have HRW := Lib.hid (hrow.grow (gm))
        have HBZ := Lib.hid hbz
        have nb := n7.grow (G.refl w3)
        have u0 := nb.cell 0 (v := .int .i64 0) rfl
        have u1 := nb.cell 1 (v := .slice none 0 0) rfl
        have z0 := nb.frozen 0
        have z1 := nb.frozen 1
        have HNEW := Lib.hid hnew
        have HROW0 := Lib.hid hrow
        clear hrow hbz hnew
        go_wp2_with fail
        refine wpAny_done (by as_aux_lemma => kernel_rfl) ?_
        go_wp2_with fail
        go_meet
        have hQ := (nb.set 0 (.int .i64 (nthC l (a % manyL l)).r)).set 1 (.slice B (nthC l (a % manyL l)).bs.length cB)
        have hGG := ((gz.trans (g3)).setCell (p := ⟨m7, 0, none⟩) hz7 (.int .i64 (nthC l (a % manyL l)).r)).setCell (p := ⟨m7, 1, none⟩) hz7 (.slice B (nthC l (a % manyL l)).bs.length cB)
        refine ⟨m7, B, cB, rfl, hz7, hQ, fun i x hx => ?_, HBZ.out, hGG⟩
        obtain ⟨b', off, e, hc⟩ := HRW.out i x hx
        have hne : b' ≠ m7 := by
          (obtain ⟨p, q, e3, h3⟩ := hB7.out i x hx); have h4 := cell_lt h3; rw [e] at e3; cases e3; omega
        refine ⟨b', off, e, ?_⟩
        rw [World.cell?_setCell_other _ _ _ _ (fun h => hne (congrArg Addr.block h).symm), World.cell?_setCell_other _ _ _ _ (fun h => hne (congrArg Addr.block h).symm)]
        exact hc
      · -- the count's box m7: from w1 (grown from z by g1) to w2, by g2
        go_wp2_with fail
        have n7 := Blk.new w1 #[.int .i64 0, .slice none 0 0] 49
        have g2 := (g1).alloc (.cells #[.int .i64 0, .slice none 0 0] 49)
        have gm := (G.refl w1).alloc (.cells #[.int .i64 0, .slice none 0 0] 49)
        have hsm := (g1).size
        generalize hm7 : w1.heap.size = m7 at *
        generalize hw7 : w1.alloc _ = w2 at *
        have hz7 : W.heap.size ≤ m7 := by have h1 := gz.size; have h2 := (g1).size; omega
        have hk1 : w1.heap.size ≤ m7 := by omega
        have hk2 : m7 ≤ w1.heap.size := by omega
        clear hm7 hw7 hsm
        refine ⟨HSG.out w2 (g2), ?_⟩
        refine wpAnyT_one' (i := 6) (by as_aux_lemma => kernel_rfl) rfl ?_
        go_wp2_with fail
        refine (Nth_c HV.out (HL.out.g.grow (hB.trans (gz.trans (g2)))) hq0 hq1).mono ?_
        rintro e w3 ⟨⟨B, cB, rfl, hrow, hnew⟩, h2⟩
        go_wp2_with fail
        have g3 := (g2).trans h2
        have hbz : ∀ b off, B = some ⟨b, off, none⟩ → W.heap.size ≤ b := fun b off e => by have h3 := hnew b off e; have h4 := gz.size; have h5 := (g2).size; omega
        refine ⟨HSG.out w3 (g3), ?_⟩
        -- all is there in the world w3, grown from z by g3; the box h2, the row's growth G.refl w3; the blocks differ by have := HNEW.out b' off e; have := n7.lt; omega
        refine wpAnyT_close (by as_aux_lemma => kernel_rfl) ?_
        refine wpAny_part (k := 8) (n := 1) (f := 0) rfl rfl (by as_aux_lemma => kernel_rfl) ?_
        simp only [List.drop_succ_cons, List.drop_zero, List.take_succ_cons, List.take_zero]
        have HRW := Lib.hid (hrow.grow (G.refl w3))
        have HBZ := Lib.hid hbz
        have nb := n7.grow (h2)
        have u0 := nb.cell 0 (v := .int .i64 0) rfl
        have u1 := nb.cell 1 (v := .slice none 0 0) rfl
        have z0 := nb.frozen 0
        have z1 := nb.frozen 1
        have HNEW := Lib.hid hnew
        have HROW0 := Lib.hid hrow
        clear hrow hbz hnew
        go_wp2_with fail
        refine wpAny_done (by as_aux_lemma => kernel_rfl) ?_
        go_wp2_with fail
        go_meet
        have hQ := (nb.set 0 (.int .i64 (nthC l (a % manyL l)).r)).set 1 (.slice B (nthC l (a % manyL l)).bs.length cB)
        have hGG := ((gz.trans (g3)).setCell (p := ⟨m7, 0, none⟩) hz7 (.int .i64 (nthC l (a % manyL l)).r)).setCell (p := ⟨m7, 1, none⟩) hz7 (.slice B (nthC l (a % manyL l)).bs.length cB)
        refine ⟨m7, B, cB, rfl, hz7, hQ, fun i x hx => ?_, HBZ.out, hGG⟩
        obtain ⟨b', off, e, hc⟩ := HRW.out i x hx
        have hne : b' ≠ m7 := by
          have := HNEW.out b' off e; have := n7.lt; omega
        refine ⟨b', off, e, ?_⟩
        rw [World.cell?_setCell_other _ _ _ _ (fun h => hne (congrArg Addr.block h).symm), World.cell?_setCell_other _ _ _ _ (fun h => hne (congrArg Addr.block h).symm)]
        exact hc
    · -- the count's box m7: from z (grown from z by G.refl z) to w1, by g1
      go_wp2_with fail
      have n7 := Blk.new z #[.int .i64 0, .slice none 0 0] 49
      have g1 := (G.refl z).alloc (.cells #[.int .i64 0, .slice none 0 0] 49)
      have gm := (G.refl z).alloc (.cells #[.int .i64 0, .slice none 0 0] 49)
      have hsm := (G.refl z).size
      generalize hm7 : z.heap.size = m7 at *
      generalize hw7 : z.alloc _ = w1 at *
      have hz7 : W.heap.size ≤ m7 := by have h1 := gz.size; have h2 := (G.refl z).size; omega
      have hk1 : z.heap.size ≤ m7 := by omega
      have hk2 : m7 ≤ z.heap.size := by omega
      clear hm7 hw7 hsm
      refine ⟨HSG.out w1 (g1), ?_⟩
      refine wpAnyT_one' (i := 4) (by as_aux_lemma => kernel_rfl) rfl ?_
      go_wp2_with fail
      refine (Many_c l.lo l.hi A (.slice C l.cs.length cC) l.gs cA w1 (by omega) (by omega) (by omega) (HL.out.g.grow (hB.trans (gz.trans (g1)))) HVM.out (by omega)).mono ?_
      rw [HM.out]
      rintro e w2 ⟨rfl, h1⟩
      go_wp2_with fail
      have g2 := (g1).trans h1
      refine ⟨HSG.out w2 (g2), ?_⟩
      have HS := HSG.out w2 (g2)
      refine wpAnyU_takes' (i := 5) rfl (by as_aux_lemma => kernel_rfl) (fun _ _ _ _ h => h) HS ?_
      apply Exists.intro
      apply And.intro
      · refine Or.inl (And.intro (by rfl) ?_)
        rintro w ⟨s0, s1, s2, s3⟩
        go_simp
        try rfl
      simp only [Act.put, List.setIfInBounds_toArray, List.set_cons_succ, List.set_cons_zero]
      clear HS
      refine wpAnyT_one' (i := 6) (by as_aux_lemma => kernel_rfl) rfl ?_
      go_wp2_with fail
      refine (Nth_c HV.out (HL.out.g.grow (hB.trans (gz.trans (g2)))) hq0 hq1).mono ?_
      rintro e w3 ⟨⟨B, cB, rfl, hrow, hnew⟩, h2⟩
      go_wp2_with fail
      have g3 := (g2).trans h2
      have hbz : ∀ b off, B = some ⟨b, off, none⟩ → W.heap.size ≤ b := fun b off e => by have h3 := hnew b off e; have h4 := gz.size; have h5 := (g2).size; omega
      refine ⟨HSG.out w3 (g3), ?_⟩
      -- all is there in the world w3, grown from z by g3; the box (h1.trans h2), the row's growth G.refl w3; the blocks differ by have := HNEW.out b' off e; have := (n7.grow h1).lt; omega
      refine wpAnyT_close (by as_aux_lemma => kernel_rfl) ?_
      refine wpAny_part (k := 8) (n := 1) (f := 0) rfl rfl (by as_aux_lemma => kernel_rfl) ?_
      simp only [List.drop_succ_cons, List.drop_zero, List.take_succ_cons, List.take_zero]
      have HRW := Lib.hid (hrow.grow (G.refl w3))
      have HBZ := Lib.hid hbz
      have nb := n7.grow ((h1.trans h2))
      have u0 := nb.cell 0 (v := .int .i64 0) rfl
      have u1 := nb.cell 1 (v := .slice none 0 0) rfl
      have z0 := nb.frozen 0
      have z1 := nb.frozen 1
      have HNEW := Lib.hid hnew
      have HROW0 := Lib.hid hrow
      clear hrow hbz hnew
      go_wp2_with fail
      refine wpAny_done (by as_aux_lemma => kernel_rfl) ?_
      go_wp2_with fail
      go_meet
      have hQ := (nb.set 0 (.int .i64 (nthC l (a % manyL l)).r)).set 1 (.slice B (nthC l (a % manyL l)).bs.length cB)
      have hGG := ((gz.trans (g3)).setCell (p := ⟨m7, 0, none⟩) hz7 (.int .i64 (nthC l (a % manyL l)).r)).setCell (p := ⟨m7, 1, none⟩) hz7 (.slice B (nthC l (a % manyL l)).bs.length cB)
      refine ⟨m7, B, cB, rfl, hz7, hQ, fun i x hx => ?_, HBZ.out, hGG⟩
      obtain ⟨b', off, e, hc⟩ := HRW.out i x hx
      have hne : b' ≠ m7 := by
        have := HNEW.out b' off e; have := (n7.grow h1).lt; omega
      refine ⟨b', off, e, ?_⟩
      rw [World.cell?_setCell_other _ _ _ _ (fun h => hne (congrArg Addr.block h).symm), World.cell?_setCell_other _ _ _ _ (fun h => hne (congrArg Addr.block h).symm)]
      exact hc
  case rest =>
    obtain ⟨n8, B, cB, rfl, hn8, hb8, hrb, hbb, hgw⟩ := hcut
    have hC := nth_ok HV.out (a := a) ha2.1
    generalize hcE : nthC l (a % manyL l) = c at *
    have HCE := Lib.hid hcE
    clear hcE
    have HCK := Lib.hid (cntOk_of HV.out hC)
    have HRB := Lib.hid hrb
    have HBB := Lib.hid hbb
    have HB8 := Lib.hid hb8
    replace hB := hB.trans hgw
    replace HK := Lib.hid (HK.out.grow hgw)
    replace HN1 := Lib.hid (HN1.out.grow hgw)
    replace HN2 := Lib.hid (HN2.out.grow hgw)
    have hws := hgw.size
    have h8l := hb8.lt
    clear htm hnz hq hq0 hq1 hw3 hw1 hrb hbb hb8 hgw hC
    obtain ⟨s0, s1, s2, s3⟩ := HK.out
    go_upto_region 4 with fail
    have HX0 := Lib.hid (Blk.new wc #[.int .i64 l.lo, .int .i64 l.hi, .slice A l.gs.length cA, .slice none 0 0] 27)
    have gx := (G.refl wc).alloc (.cells #[.int .i64 l.lo, .int .i64 l.hi, .slice A l.gs.length cA, .slice none 0 0] 27)
    have hxl := HX0.out.lt
    generalize hbx : wc.heap.size = bx at *
    generalize hVV : wc.alloc _ = V at *
    have hBV := hB.trans gx
    have hcb : wc.heap.size ≤ bx := by omega
    clear hbx hVV s0 s1 s2 s3
    have HV0 := Lib.hid (fun (wr : World) (h : V.grownBy wr (some bx)) => (hBV.grown h (fun k e => by cases e; omega) : G w wr))
    have HK0 := Lib.hid (fun (wr : World) (h : V.grownBy wr (some bx)) => (show LBox wr w.heap.size l A C cA cC from by
      obtain ⟨k0, k1, k2, k3⟩ := HK.out.grow gx
      have hne : (some bx : Option Nat) ≠ some w.heap.size := by intro e; injection e; omega
      exact ⟨grown_cell h k0 hne, grown_cell h k1 hne, grown_cell h k2 hne, grown_cell h k3 hne⟩))
    have HC0 := Lib.hid (fun (wr : World) (h : V.grownBy wr (some bx)) => (show Blk wr n8 49 (cells2c c B cB) from (HB8.out.grow gx).grown h (by intro e; injection e; omega)))
    have HR0 := Lib.hid (fun (wr : World) (h : V.grownBy wr (some bx)) => (show RowI wr B c.bs from fun j x hj => by
      obtain ⟨b, off, e, h0⟩ := HRB.out j x hj
      have hl := cell_lt h0
      exact ⟨b, off, e, grown_cell h (gx.cell h0) (by intro e; injection e with e; have : bx = b := e; omega)⟩))
    have HM1 := Lib.hid (fun (wr : World) (h : V.grownBy wr (some bx)) => (show Blk wr (w.heap.size + 1) 27 #[.int .i64 0, .int .i64 0, .slice none 0 0, .slice none 0 0] from (HN1.out.grow gx).grown h (by intro e; injection e; omega)))
    have HM2 := Lib.hid (fun (wr : World) (h : V.grownBy wr (some bx)) => (show Blk wr (w.heap.size + 1 + 1) 49 #[.int .i64 0, .slice none 0 0] from (HN2.out.grow gx).grown h (by intro e; injection e; omega)))
    go_wp2_with fail
    go_loopw [10] (fun v10 wr => ∃ (i : Nat) (v : Value), i ≤ claimN l ws ∧ v10 = .int .i64 i ∧ Hid (Blk wr bx 27 #[.int .i64 l.lo, .int .i64 l.hi, .slice A l.gs.length cA, v]) ∧ Hid (Own3 97 V.heap.size wr v (claimsTo l c ws i)) ∧ Hid (V.grownBy wr (some bx))) (fun v10 _ => 6 - (intOf v10).toNat)
    case atStart => exact ⟨0, .slice none 0 0, by omega, rfl, HX0.out, Own3.nil _ _ _, grownBy_of (G.refl _) |>.but _⟩
    case round =>
      obtain ⟨i, v, hi, rfl, HB, HO, HW⟩ := hrel
      obtain ⟨A1, c1, e1, hc1, -⟩ := HO.out.row
      rw [claimsTo_len] at e1
      subst e1
      have hN5 := claimN_le l ws
      have gw := HV0.out wr HW.out
      obtain ⟨s0, s1, s2, s3⟩ := HK0.out wr HW.out
      have hword := fun (at' : Nat) (h : at' ≤ 1000) (z : World) (hz : G wr z) => word_c (cA := cD) (HD.out.grow (gw.trans hz)) HLN.out HU.out h
      have h0w := hword 0 (by omega) wr (G.refl _)
      obtain ⟨m6, hm6⟩ : ∃ m6, wordN ws 0 % 6 = m6 := ⟨_, rfl⟩
      have htm6 : ((wordN ws 0 : Nat) : Int).tmod 6 = (m6 : Int) := tmod_nat4 hm6
      have hm65 : m6 ≤ 5 := by omega
      have hw6 : IntKind.i64.wrap (m6 : Int) = m6 := IntWalk.i64_in _ (by omega)
      have hcl : claimN l ws = if l.gs.length = 0 then 0 else m6 := by unfold claimN; rw [hm6]
      have hz0 : (((0 : Nat) : Nat) : Int) = 0 := rfl
      rw [hz0] at h0w
      generalize wordN ws 0 = w0 at *
      clear hm6
      by_cases hlt : i < claimN l ws
      · have hng0 : l.gs.length ≠ 0 := by intro h; rw [if_pos h] at hcl; omega
        rw [if_neg hng0] at hcl
        have him : (i : Int) < (m6 : Int) := by omega
        have hgp : (0 : Int) < (l.gs.length : Int) := by omega
        clear hz0
        go_wp2_with fail
        refine h0w.mono ?_
        rintro e w1 ⟨rfl, rfl⟩
        have h1w := fun (z : World) (hz : G wr z) => hword (2 * i + 1) (by omega) z hz
        have h2w := fun (z : World) (hz : G wr z) => hword (2 * i + 2) (by omega) z hz
        rw [show ((2 * i + 1 : Nat) : Int) = 2 * (i : Int) + 1 by omega] at h1w
        rw [show ((2 * i + 2 : Nat) : Int) = 2 * (i : Int) + 2 by omega] at h2w
        obtain ⟨gi, hgi⟩ : ∃ gi, claimG l ws i = gi := ⟨_, rfl⟩
        obtain ⟨ki, hki⟩ : ∃ ki, claimK ws i = ki := ⟨_, rfl⟩
        have hgil : gi < l.gs.length := by rw [← hgi]; exact Nat.mod_lt _ (by omega)
        have htg : ((wordN ws (2 * i + 1) : Nat) : Int).tmod (l.gs.length : Int) = (gi : Int) := tmod_nat4 hgi
        have hk16 : ki ≤ 65535 := by
          rw [← hki]
          unfold claimK wordN
          by_cases hz : (2 * i + 2) % ws.length < ws.length
          · rw [getD_of hz]
            have := HU.out _ (List.getElem_mem hz)
            omega
          · rw [List.getD_eq_getElem?_getD, List.getElem?_eq_none (by omega)]
            simp
        rw [show wordN ws (2 * i + 2) = ki from hki] at h2w
        have HCA := Lib.hid (show claimAt l c ws i = ⟨(gi : Int), maxM (owed l c gi - ((ki % 3 : Nat) : Int)), owed l c gi + ((ki / 3 % 3 : Nat) : Int)⟩ by unfold claimAt; rw [hgi, hki])
        generalize wordN ws (2 * i + 1) = wg at *
        have u1 : IntKind.i64.wrap (2 * (i : Int)) = 2 * (i : Int) := IntWalk.i64_in _ (by omega)
        have u2 : IntKind.i64.wrap (2 * (i : Int) + 1) = 2 * (i : Int) + 1 := IntWalk.i64_in _ (by omega)
        have u3 : IntKind.i64.wrap (2 * (i : Int) + 2) = 2 * (i : Int) + 2 := IntWalk.i64_in _ (by omega)
        have u4 : IntKind.i64.wrap (gi : Int) = gi := IntWalk.i64_in _ (by omega)
        have hnz : ¬ ((l.gs.length : Int) = 0) := by omega
        go_wp2_with fail
        clear hgi hki htm6 hw6 h0w hword hcl him hgp
        refine wp_region_A (by as_aux_lemma => kernel_rfl) ?_
        obtain ⟨wz, hz⟩ : ∃ z : World, z = { wr with drawn := wr.drawn + 1 } := ⟨_, rfl⟩
        rw [← hz]
        have gz : G wr wz := by rw [hz]; exact (G.refl _).drew
        clear hz
        have HSG := Lib.hid (fun (w' : World) (h : G wz w') => (HK0.out wr HW.out).grow (gz.trans h))
        have HS := HSG.out wz (G.refl _)
        clear s0 s1 s2 s3
        refine wpAny_fork (fun w' => LBox w' w.heap.size l A C cA cC) 14 ?_
        refine wpAnyU_takes' (i := 0) rfl (by as_aux_lemma => kernel_rfl) (fun _ _ _ _ h => h) HS ?_
        apply Exists.intro
        apply And.intro
        · refine Or.inl (And.intro (by rfl) ?_)
          rintro w ⟨s0, s1, s2, s3⟩
          go_simp
          try rfl
        simp only [Act.put, List.setIfInBounds_toArray, List.set_cons_succ, List.set_cons_zero]
        refine wpAnyU_takes' (i := 1) rfl (by as_aux_lemma => kernel_rfl) (fun _ _ _ _ h => h) HS ?_
        apply Exists.intro
        apply And.intro
        · refine Or.inl (And.intro (by rfl) ?_)
          rintro w ⟨s0, s1, s2, s3⟩
          go_simp
          try rfl
        simp only [Act.put, List.setIfInBounds_toArray, List.set_cons_succ, List.set_cons_zero]
        refine wpAnyU_takes' (i := 2) rfl (by as_aux_lemma => kernel_rfl) (fun _ _ _ _ h => h) HS ?_
        apply Exists.intro
        apply And.intro
        · refine Or.inl (And.intro (by rfl) ?_)
          rintro w ⟨s0, s1, s2, s3⟩
          go_simp
          try rfl
        simp only [Act.put, List.setIfInBounds_toArray, List.set_cons_succ, List.set_cons_zero]
        refine wpAnyU_takes' (i := 3) rfl (by as_aux_lemma => kernel_rfl) (fun _ _ _ _ h => h) HS ?_
        apply Exists.intro
        apply And.intro
        · refine Or.inl (And.intro (by rfl) ?_)
          rintro w ⟨s0, s1, s2, s3⟩
          go_simp
          try rfl
        simp only [Act.put, List.setIfInBounds_toArray, List.set_cons_succ, List.set_cons_zero]
        refine wpAnyU_takes' (i := 5) rfl (by as_aux_lemma => kernel_rfl) (fun _ _ _ _ h => h) HS ?_
        apply Exists.intro
        apply And.intro
        · refine Or.inl (And.intro (by rfl) ?_)
          rintro w ⟨s0, s1, s2, s3⟩
          go_simp
          try rfl
        simp only [Act.put, List.setIfInBounds_toArray, List.set_cons_succ, List.set_cons_zero]
        refine wpAnyU_takes' (i := 6) rfl (by as_aux_lemma => kernel_rfl) (fun _ _ _ _ h => h) HS ?_
        apply Exists.intro
        apply And.intro
        · refine Or.inl (And.intro (by rfl) ?_)
          rintro w ⟨s0, s1, s2, s3⟩
          go_simp
          try rfl
        simp only [Act.put, List.setIfInBounds_toArray, List.set_cons_succ, List.set_cons_zero]
        refine wpAnyU_takes' (i := 7) rfl (by as_aux_lemma => kernel_rfl) (fun _ _ _ _ h => h) HS ?_
        apply Exists.intro
        apply And.intro
        · refine Or.inl (And.intro (by rfl) ?_)
          rintro w ⟨s0, s1, s2, s3⟩
          go_simp
          try rfl
        simp only [Act.put, List.setIfInBounds_toArray, List.set_cons_succ, List.set_cons_zero]
        refine wpAnyU_takes' (i := 9) rfl (by as_aux_lemma => kernel_rfl) (fun _ _ _ _ h => h) HS ?_
        apply Exists.intro
        apply And.intro
        · refine Or.inl (And.intro (by rfl) ?_)
          rintro w ⟨s0, s1, s2, s3⟩
          go_simp
          try rfl
        simp only [Act.put, List.setIfInBounds_toArray, List.set_cons_succ, List.set_cons_zero]
        refine wpAnyU_takes' (i := 10) rfl (by as_aux_lemma => kernel_rfl) (fun _ _ _ _ h => h) HS ?_
        apply Exists.intro
        apply And.intro
        · refine Or.inl (And.intro (by rfl) ?_)
          rintro w ⟨s0, s1, s2, s3⟩
          go_simp
          try rfl
        simp only [Act.put, List.setIfInBounds_toArray, List.set_cons_succ, List.set_cons_zero]
        refine wpAnyU_takes' (i := 11) rfl (by as_aux_lemma => kernel_rfl) (fun _ _ _ _ h => h) HS ?_
        apply Exists.intro
        apply And.intro
        · refine Or.inl (And.intro (by rfl) ?_)
          rintro w ⟨s0, s1, s2, s3⟩
          go_simp
          try rfl
        simp only [Act.put, List.setIfInBounds_toArray, List.set_cons_succ, List.set_cons_zero]
        refine wpAnyU_takes' (i := 12) rfl (by as_aux_lemma => kernel_rfl) (fun _ _ _ _ h => h) HS ?_
        apply Exists.intro
        apply And.intro
        · refine Or.inl (And.intro (by rfl) ?_)
          rintro w ⟨s0, s1, s2, s3⟩
          go_simp
          try rfl
        simp only [Act.put, List.setIfInBounds_toArray, List.set_cons_succ, List.set_cons_zero]
        refine wpAnyT_one' (i := 4) (by as_aux_lemma => kernel_rfl) rfl ?_
        go_wp2_with fail
        refine (h1w wz gz).mono ?_
        rintro e w1 ⟨rfl, rfl⟩
        go_wp2_with fail
        refine ⟨HS, ?_⟩
        refine wpAnyU_takes' (i := 8) rfl (by as_aux_lemma => kernel_rfl) (fun _ _ _ _ h => h) HS ?_
        apply Exists.intro
        apply And.intro
        · refine Or.inl (And.intro (by rfl) ?_)
          rintro w ⟨s0, s1, s2, s3⟩
          go_simp
          try rfl
        simp only [Act.put, List.setIfInBounds_toArray, List.set_cons_succ, List.set_cons_zero]
        refine wpAnyT_one' (i := 13) (by as_aux_lemma => kernel_rfl) rfl ?_
        go_wp2_with fail
        refine (h2w wz gz).mono ?_
        rintro e w1 ⟨rfl, rfl⟩
        go_wp2_with fail
        refine ⟨HS, ?_⟩
        refine wpAnyT_close (by as_aux_lemma => kernel_rfl) ?_
        refine wpAny_part (k := 14) (n := 2) (f := 0) rfl rfl (by as_aux_lemma => kernel_rfl) ?_
        simp only [List.drop_succ_cons, List.drop_zero, List.take_succ_cons, List.take_zero]
        go_wp2_with fail
        refine wpAny_done (by as_aux_lemma => kernel_rfl) ?_
        clear h1w h2w htg u1 u2 u3 u4 hnz HS HSG
        have HWz := Lib.hid (grownBy_G HW.out gz)
        replace HB := Lib.hid (HB.out.grow gz)
        replace HO := Lib.hid (own_grow HO.out gz)
        have gwz := HV0.out wz HWz.out
        obtain ⟨s0, s1, s2, s3⟩ := HK0.out wz HWz.out
        have hc8 := HC0.out wz HWz.out
        have r0 := hc8.cell 0 (v := .int .i64 c.r) rfl
        have r1 := hc8.cell 1 (v := .slice B c.bs.length cB) rfl
        have HR8 := Lib.hid (HR0.out wz HWz.out)
        clear hc8 gz HW gw
        go_wp2_with fail
        refine (Owed_c (C := C) (cA := cA) (cC := cC) (cB := cB) (w := wz) HV.out HCK.out (HL.out.g.grow gwz) HR8.out hgil).mono ?_
        rintro e w2 ⟨rfl, hb2⟩
        have hob := owed_bd HV.out HCK.out gi
        generalize owed l c gi = n at *
        clear s0 s1 s2 s3 r0 r1 HR8
        replace HWz := Lib.hid (grownBy_G HWz.out hb2)
        replace HB := Lib.hid (HB.out.grow hb2)
        replace HO := Lib.hid (own_grow HO.out hb2)
        obtain ⟨k3, hk3⟩ : ∃ k3, ki % 3 = k3 := ⟨_, rfl⟩
        obtain ⟨kd, hkd⟩ : ∃ kd, ki / 3 = kd := ⟨_, rfl⟩
        obtain ⟨k5, hk5⟩ : ∃ k5, kd % 3 = k5 := ⟨_, rfl⟩
        have t1 : ((ki : Nat) : Int).tmod 3 = (k3 : Int) := tmod_nat4 hk3
        have t2 : ((ki : Nat) : Int).tdiv 3 = (kd : Int) := by rw [Int.tdiv_eq_ediv_of_nonneg (by omega)]; omega
        have t3 : ((kd : Nat) : Int).tmod 3 = (k5 : Int) := tmod_nat4 hk5
        have hk3l : k3 ≤ 2 := by omega
        have hk5l : k5 ≤ 2 := by omega
        have hkdl : kd ≤ 65535 := by omega
        have v1 : IntKind.i64.wrap (k3 : Int) = k3 := IntWalk.i64_in _ (by omega)
        have v2 : IntKind.i64.wrap (kd : Int) = kd := IntWalk.i64_in _ (by omega)
        have v3 : IntKind.i64.wrap (k5 : Int) = k5 := IntWalk.i64_in _ (by omega)
        rw [hkd, hk3, hk5] at HCA
        obtain ⟨ln, hln⟩ : ∃ ln, n - (k3 : Int) = ln := ⟨_, rfl⟩
        obtain ⟨hn, hhn⟩ : ∃ hn, n + (k5 : Int) = hn := ⟨_, rfl⟩
        have v4 : IntKind.i64.wrap (n - (k3 : Int)) = ln := by rw [hln]; exact IntWalk.i64_in _ (by omega)
        have v5 : IntKind.i64.wrap (n + (k5 : Int)) = hn := by rw [hhn]; exact IntWalk.i64_in _ (by omega)
        rw [hln, hhn] at HCA
        have HSU := Lib.hid (claimsTo_succ l c ws i)
        have hc2l := hb2.size
        have HVs := Lib.hid HWz.out.size
        clear hk3 hkd hk5 hln hhn
        by_cases kk : -999 < ln
        · have HMX := Lib.hid (show maxM ln = ln by unfold maxM; rw [if_pos kk])
          rw [HMX.out] at HCA
          -- the new claim is ⟨gi, ln, hn⟩; its append, from the world w2
          have hlen : (claimsTo l c ws i ++ [(⟨(gi : Int), ln, hn⟩ : T3)]).length = i + 1 := by rw [List.length_append, claimsTo_len]; rfl
          have b3 := HB.out.cell 3 (v := .slice A1 i c1) rfl
          have hbl := HB.out.lt
          have hVw := HVs.out
          go_upto_region 6 with (at_builtin; refine app_3 25 97 und25 info97' V.heap.size rfl _ _ rfl _ (claimsTo l c ws i) ⟨(gi : Int), ln, hn⟩ rfl w2.heap.size rfl (newCell _ _ _ _ rfl) (newCell _ _ _ _ rfl) (newCell _ _ _ _ rfl) (own_grow HO.out ((G.refl _).alloc _)) (by simp; omega) (by rw [claimsTo_len]; omega) ?_; intro v4 w4 o1 o2 o3; obtain ⟨A4, c4, e4, -, -⟩ := o1.row; rw [hlen] at e4; subst e4; have B4 := (HB.out.grow ((G.refl w2).alloc (.cells #[.int .i64 (gi : Int), .int .i64 ln, .int .i64 hn] 97))).grown o2 (fun e => by have := own_base HO.out bx e.symm; omega); have u4 := B4.cell 3 (v := .slice A1 i c1) rfl; have z4 := B4.frozen 3)
          have HO5 : Hid (Own3 97 V.heap.size (w4.setCell ⟨bx, 3, none⟩ (.slice A4 (i + 1) c4)) (.slice A4 (i + 1) c4) (claimsTo l c ws (i + 1))) := by
            rw [Hid, HSU.out, HCA.out]
            exact own_far o1 (p := ⟨bx, 3, none⟩) (fun q hq => by have := own_base o1 q hq; show q ≠ bx; omega) _
          have B5 := Lib.hid (B4.set 3 (.slice A4 (i + 1) c4))
          have o2' : w2.grownBy w4 (Value.ownBlock (.slice A1 i c1)) := grownBy_trans ((grownBy_of ((G.refl w2).alloc (.cells #[.int .i64 (gi : Int), .int .i64 ln, .int .i64 hn] 97))).but _) o2
          have HW5 := Lib.hid (grownBy_trans (grownBy_far HWz.out o2' (fun q hq => own_base HO.out q hq)) (grownBy_set w4 ⟨bx, 3, none⟩ (.slice A4 (i + 1) c4)))
          clear o1 o2 o3 o2' B4 u4 z4 b3
          go_wp2_with fail
          go_roundw
          case rel => exact ⟨i + 1, _, by omega, by go_num, B5.out, HO5.out, HW5.out⟩
          case measure => simp [intOf] <;> omega
        · have HMX := Lib.hid (show maxM ln = -999 by unfold maxM; rw [if_neg kk])
          rw [HMX.out] at HCA
          -- the new claim is ⟨gi, (-999 : Int), hn⟩; its append, from the world w2
          have hlen : (claimsTo l c ws i ++ [(⟨(gi : Int), (-999 : Int), hn⟩ : T3)]).length = i + 1 := by rw [List.length_append, claimsTo_len]; rfl
          have b3 := HB.out.cell 3 (v := .slice A1 i c1) rfl
          have hbl := HB.out.lt
          have hVw := HVs.out
          go_upto_region 6 with (at_builtin; refine app_3 25 97 und25 info97' V.heap.size rfl _ _ rfl _ (claimsTo l c ws i) ⟨(gi : Int), (-999 : Int), hn⟩ rfl w2.heap.size rfl (newCell _ _ _ _ rfl) (newCell _ _ _ _ rfl) (newCell _ _ _ _ rfl) (own_grow HO.out ((G.refl _).alloc _)) (by simp; omega) (by rw [claimsTo_len]; omega) ?_; intro v4 w4 o1 o2 o3; obtain ⟨A4, c4, e4, -, -⟩ := o1.row; rw [hlen] at e4; subst e4; have B4 := (HB.out.grow ((G.refl w2).alloc (.cells #[.int .i64 (gi : Int), .int .i64 (-999 : Int), .int .i64 hn] 97))).grown o2 (fun e => by have := own_base HO.out bx e.symm; omega); have u4 := B4.cell 3 (v := .slice A1 i c1) rfl; have z4 := B4.frozen 3)
          have HO5 : Hid (Own3 97 V.heap.size (w4.setCell ⟨bx, 3, none⟩ (.slice A4 (i + 1) c4)) (.slice A4 (i + 1) c4) (claimsTo l c ws (i + 1))) := by
            rw [Hid, HSU.out, HCA.out]
            exact own_far o1 (p := ⟨bx, 3, none⟩) (fun q hq => by have := own_base o1 q hq; show q ≠ bx; omega) _
          have B5 := Lib.hid (B4.set 3 (.slice A4 (i + 1) c4))
          have o2' : w2.grownBy w4 (Value.ownBlock (.slice A1 i c1)) := grownBy_trans ((grownBy_of ((G.refl w2).alloc (.cells #[.int .i64 (gi : Int), .int .i64 (-999 : Int), .int .i64 hn] 97))).but _) o2
          have HW5 := Lib.hid (grownBy_trans (grownBy_far HWz.out o2' (fun q hq => own_base HO.out q hq)) (grownBy_set w4 ⟨bx, 3, none⟩ (.slice A4 (i + 1) c4)))
          clear o1 o2 o3 o2' B4 u4 z4 b3
          go_wp2_with fail
          go_roundw
          case rel => exact ⟨i + 1, _, by omega, by go_num, B5.out, HO5.out, HW5.out⟩
          case measure => simp [intOf] <;> omega
      · obtain rfl : i = claimN l ws := by omega
        have hcs : ∀ h : ¬ l.gs.length = 0, claimN l ws = m6 := fun h => by rw [hcl, if_neg h]
        have HCS := Lib.hid hcs
        clear hz0 hcl hcs hword hlt hi
        by_cases hcc : (claimN l ws : Int) < (m6 : Int)
        · have hg0 : l.gs.length = 0 := by
            refine Classical.byContradiction fun h => ?_
            have := HCS.out h
            omega
          have q1 : ¬ (0 : Int) < (l.gs.length : Int) := by omega
          have q2 : decide ((0 : Int) < (l.gs.length : Int)) = false := decide_eq_false (by omega)
          have q3 : decide (0 < l.gs.length) = false := decide_eq_false (by omega)
          have q4 : decide ((claimN l ws : Int) < (m6 : Int)) = true := decide_eq_true hcc
          have q5 : decide (claimN l ws < m6) = true := decide_eq_true (by omega)
          clear hg0
          go_wp2_with fail
          refine h0w.mono ?_
          rintro e w1 ⟨rfl, rfl⟩
          go_wp2_with fail
          clear h0w htm6 hw6
          refine wp_region_A (by as_aux_lemma => kernel_rfl) ?_
          obtain ⟨z, hz⟩ : ∃ z : World, z = { wr with drawn := wr.drawn + 1 } := ⟨_, rfl⟩
          rw [← hz]
          have gz : G wr z := by rw [hz]; exact (G.refl _).drew
          clear hz
          have hbz := HB.out.grow gz
          have hxz : LBox z bx (claimedL l c ws) A A1 cA c1 := by
            refine LBox.of (t := 27) ?_
            unfold cells4
            rw [show (claimedL l c ws).cs.length = claimN l ws from claimsTo_len ..]
            exact hbz
          have hcz : CBox z n8 c B cB := CBox.of ((HC0.out wr HW.out).grow gz)
          have m1 := (HM1.out wr HW.out).grow gz
          have m2 := (HM2.out wr HW.out).grow gz
          have HS : LBox z bx (claimedL l c ws) A A1 cA c1 ∧ CBox z n8 c B cB := ⟨hxz, hcz⟩
          have u0 := m1.cell 0 (v := .int .i64 0) rfl
          have u1 := m1.cell 1 (v := .int .i64 0) rfl
          have u2 := m1.cell 2 (v := .slice none 0 0) rfl
          have u3 := m1.cell 3 (v := .slice none 0 0) rfl
          have z0 := m1.frozen 0
          have z1 := m1.frozen 1
          have z2 := m1.frozen 2
          have z3 := m1.frozen 3
          have hOZ := own_grow HO.out gz
          have hRZ := (HR0.out wr HW.out).grow gz
          have gZ := (HV0.out wr HW.out).trans gz
          have HOZ : Hid (Own3 97 V.heap.size z (.slice A1 (claimN l ws) c1) (claimsTo l c ws (claimN l ws))) := hOZ
          have HRZ := Lib.hid hRZ
          have HGZ := Lib.hid gZ
          clear hxz hcz s0 s1 s2 s3 hOZ hRZ gZ hbz
          refine wpAny_fork (fun w' => LBox w' bx (claimedL l c ws) A A1 cA c1 ∧ CBox w' n8 c B cB) 3 ?_
          refine wpAnyU_takes' (i := 0) rfl (by as_aux_lemma => kernel_rfl) (fun _ _ _ _ h => h) HS ?_
          apply Exists.intro
          apply And.intro
          · refine Or.inl (And.intro (by rfl) ?_)
            rintro w ⟨⟨s0, s1, s2, s3⟩, s4, s5⟩
            go_simp
            try rfl
          simp only [Act.put, List.setIfInBounds_toArray, List.set_cons_succ, List.set_cons_zero]
          refine wpAnyU_takes' (i := 1) rfl (by as_aux_lemma => kernel_rfl) (fun _ _ _ _ h => h) HS ?_
          apply Exists.intro
          apply And.intro
          · refine Or.inl (And.intro (by rfl) ?_)
            rintro w ⟨⟨s0, s1, s2, s3⟩, s4, s5⟩
            go_simp
            try rfl
          simp only [Act.put, List.setIfInBounds_toArray, List.set_cons_succ, List.set_cons_zero]
          refine wpAnyT_one' (i := 2) (by as_aux_lemma => kernel_rfl) rfl ?_
          go_wp2_with fail
          refine ⟨⟨(((HS.1.far2 (by show bx ≠ w.heap.size + 1; omega) _).far2 (by show bx ≠ w.heap.size + 1; omega) _).far2 (by show bx ≠ w.heap.size + 1; omega) _).far2 (by show bx ≠ w.heap.size + 1; omega) _, (((HS.2.far2 (by show n8 ≠ w.heap.size + 1; omega) _).far2 (by show n8 ≠ w.heap.size + 1; omega) _).far2 (by show n8 ≠ w.heap.size + 1; omega) _).far2 (by show n8 ≠ w.heap.size + 1; omega) _⟩, ?_⟩
          refine wpAnyT_close (by as_aux_lemma => kernel_rfl) ?_
          refine wpAny_part (k := 3) (n := 1) (f := 0) rfl rfl (by as_aux_lemma => kernel_rfl) ?_
          simp only [List.drop_succ_cons, List.drop_zero, List.take_succ_cons, List.take_zero]
          clear u0 u1 u2 u3 z0 z1 z2 z3 HS
          have m1a := (((m1.set 0 (.int .i64 (claimedL l c ws).lo)).set 1 (.int .i64 (claimedL l c ws).hi)).set 2 (.slice A (claimedL l c ws).gs.length cA)).set 3 (.slice A1 (claimedL l c ws).cs.length c1)
          have m2a := (((m2.far (p := ⟨w.heap.size + 1, 0, none⟩) (by show w.heap.size + 1 + 1 ≠ w.heap.size + 1; omega) (.int .i64 (claimedL l c ws).lo)).far (p := ⟨w.heap.size + 1, 1, none⟩) (by show w.heap.size + 1 + 1 ≠ w.heap.size + 1; omega) (.int .i64 (claimedL l c ws).hi)).far (p := ⟨w.heap.size + 1, 2, none⟩) (by show w.heap.size + 1 + 1 ≠ w.heap.size + 1; omega) (.slice A (claimedL l c ws).gs.length cA)).far (p := ⟨w.heap.size + 1, 3, none⟩) (by show w.heap.size + 1 + 1 ≠ w.heap.size + 1; omega) (.slice A1 (claimedL l c ws).cs.length c1)
          have hoq : ∀ q, Value.ownBlock (.slice A1 (claimN l ws) c1) = some q → q ≠ w.heap.size + 1 := fun q hq => by have := own_base HOZ.out q hq; omega
          have hoq2 : ∀ q, Value.ownBlock (.slice A1 (claimN l ws) c1) = some q → q ≠ w.heap.size + 1 + 1 := fun q hq => by have := own_base HOZ.out q hq; omega
          have hbq : ∀ b off, B = some ⟨b, off, none⟩ → b ≠ w.heap.size + 1 := fun b off e => by have := HBB.out b off e; omega
          have hbq2 : ∀ b off, B = some ⟨b, off, none⟩ → b ≠ w.heap.size + 1 + 1 := fun b off e => by have := HBB.out b off e; omega
          have hO2 := own_far (own_far (own_far (own_far HOZ.out (p := ⟨w.heap.size + 1, 0, none⟩) hoq (.int .i64 (claimedL l c ws).lo)) (p := ⟨w.heap.size + 1, 1, none⟩) hoq (.int .i64 (claimedL l c ws).hi)) (p := ⟨w.heap.size + 1, 2, none⟩) hoq (.slice A (claimedL l c ws).gs.length cA)) (p := ⟨w.heap.size + 1, 3, none⟩) hoq (.slice A1 (claimedL l c ws).cs.length c1)
          have hR2 := (((HRZ.out.far (p := ⟨w.heap.size + 1, 0, none⟩) hbq (.int .i64 (claimedL l c ws).lo)).far (p := ⟨w.heap.size + 1, 1, none⟩) hbq (.int .i64 (claimedL l c ws).hi)).far (p := ⟨w.heap.size + 1, 2, none⟩) hbq (.slice A (claimedL l c ws).gs.length cA)).far (p := ⟨w.heap.size + 1, 3, none⟩) hbq (.slice A1 (claimedL l c ws).cs.length c1)
          have hG2 := (((HGZ.out.setCell (p := ⟨w.heap.size + 1, 0, none⟩) (by show w.heap.size ≤ w.heap.size + 1; omega) (.int .i64 (claimedL l c ws).lo)).setCell (p := ⟨w.heap.size + 1, 1, none⟩) (by show w.heap.size ≤ w.heap.size + 1; omega) (.int .i64 (claimedL l c ws).hi)).setCell (p := ⟨w.heap.size + 1, 2, none⟩) (by show w.heap.size ≤ w.heap.size + 1; omega) (.slice A (claimedL l c ws).gs.length cA)).setCell (p := ⟨w.heap.size + 1, 3, none⟩) (by show w.heap.size ≤ w.heap.size + 1; omega) (.slice A1 (claimedL l c ws).cs.length c1)
          have HM1a := Lib.hid m1a
          have HO2 := Lib.hid hO2
          have HR2 := Lib.hid hR2
          have HG2 := Lib.hid hG2
          clear m1 m2 m1a hO2 hR2 hG2 HOZ HRZ HGZ
          generalize (((z.setCell _ _).setCell _ _).setCell _ _).setCell _ _ = y at *
          have e0 := m2a.cell 0 (v := .int .i64 0) rfl
          have e1 := m2a.cell 1 (v := .slice none 0 0) rfl
          have f0 := m2a.frozen 0
          have f1 := m2a.frozen 1
          go_wp2_with fail
          refine wpAny_done (by as_aux_lemma => kernel_rfl) ?_
          go_wp2_with fail
          clear e0 e1 f0 f1
          have m2b := (m2a.set 0 (.int .i64 c.r)).set 1 (.slice B c.bs.length cB)
          have m1b := (HM1a.out.far (p := ⟨w.heap.size + 1 + 1, 0, none⟩) (by show w.heap.size + 1 ≠ w.heap.size + 1 + 1; omega) (.int .i64 c.r)).far (p := ⟨w.heap.size + 1 + 1, 1, none⟩) (by show w.heap.size + 1 ≠ w.heap.size + 1 + 1; omega) (.slice B c.bs.length cB)
          have hO3 := own_far (own_far HO2.out (p := ⟨w.heap.size + 1 + 1, 0, none⟩) hoq2 (.int .i64 c.r)) (p := ⟨w.heap.size + 1 + 1, 1, none⟩) hoq2 (.slice B c.bs.length cB)
          have hR3 := (HR2.out.far (p := ⟨w.heap.size + 1 + 1, 0, none⟩) hbq2 (.int .i64 c.r)).far (p := ⟨w.heap.size + 1 + 1, 1, none⟩) hbq2 (.slice B c.bs.length cB)
          have hG3 := (HG2.out.setCell (p := ⟨w.heap.size + 1 + 1, 0, none⟩) (by show w.heap.size ≤ w.heap.size + 1 + 1; omega) (.int .i64 c.r)).setCell (p := ⟨w.heap.size + 1 + 1, 1, none⟩) (by show w.heap.size ≤ w.heap.size + 1 + 1; omega) (.slice B c.bs.length cB)
          have x0 := m1b.cell 0 (v := .int .i64 (claimedL l c ws).lo) rfl
          have x1 := m1b.cell 1 (v := .int .i64 (claimedL l c ws).hi) rfl
          have x2 := m1b.cell 2 (v := .slice A (claimedL l c ws).gs.length cA) rfl
          have x3 := m1b.cell 3 (v := .slice A1 (claimedL l c ws).cs.length c1) rfl
          have x4 := m2b.cell 0 (v := .int .i64 c.r) rfl
          have x5 := m2b.cell 1 (v := .slice B c.bs.length cB) rfl
          obtain ⟨A9, c9, e9, -, hr9⟩ := Own3.row hO3
          injection e9 with e9
          subst e9
          rw [HCE.out]
          refine bodyPost_ret (v := .tuple #[ledV (claimedL l c ws) A A1 cA c1, cnV c B cB]) (by simp [results, Try.results46, go_sem, x0, x1, x2, x3, x4, x5]) rfl ⟨⟨B, cB, A1, c1, rfl, ⟨HL.out.g.grow hG3, hr9⟩, hR3⟩, hG3⟩
        · have q4 : decide ((claimN l ws : Int) < (m6 : Int)) = false := decide_eq_false hcc
          have q5 : decide (claimN l ws < m6) = false := decide_eq_false (by omega)
          go_wp2_with fail
          refine h0w.mono ?_
          rintro e w1 ⟨rfl, rfl⟩
          go_wp2_with fail
          clear h0w htm6 hw6
          refine wp_region_A (by as_aux_lemma => kernel_rfl) ?_
          obtain ⟨z, hz⟩ : ∃ z : World, z = { wr with drawn := wr.drawn + 1 } := ⟨_, rfl⟩
          rw [← hz]
          have gz : G wr z := by rw [hz]; exact (G.refl _).drew
          clear hz
          have hbz := HB.out.grow gz
          have hxz : LBox z bx (claimedL l c ws) A A1 cA c1 := by
            refine LBox.of (t := 27) ?_
            unfold cells4
            rw [show (claimedL l c ws).cs.length = claimN l ws from claimsTo_len ..]
            exact hbz
          have hcz : CBox z n8 c B cB := CBox.of ((HC0.out wr HW.out).grow gz)
          have m1 := (HM1.out wr HW.out).grow gz
          have m2 := (HM2.out wr HW.out).grow gz
          have HS : LBox z bx (claimedL l c ws) A A1 cA c1 ∧ CBox z n8 c B cB := ⟨hxz, hcz⟩
          have u0 := m1.cell 0 (v := .int .i64 0) rfl
          have u1 := m1.cell 1 (v := .int .i64 0) rfl
          have u2 := m1.cell 2 (v := .slice none 0 0) rfl
          have u3 := m1.cell 3 (v := .slice none 0 0) rfl
          have z0 := m1.frozen 0
          have z1 := m1.frozen 1
          have z2 := m1.frozen 2
          have z3 := m1.frozen 3
          have hOZ := own_grow HO.out gz
          have hRZ := (HR0.out wr HW.out).grow gz
          have gZ := (HV0.out wr HW.out).trans gz
          have HOZ : Hid (Own3 97 V.heap.size z (.slice A1 (claimN l ws) c1) (claimsTo l c ws (claimN l ws))) := hOZ
          have HRZ := Lib.hid hRZ
          have HGZ := Lib.hid gZ
          clear hxz hcz s0 s1 s2 s3 hOZ hRZ gZ hbz
          refine wpAny_fork (fun w' => LBox w' bx (claimedL l c ws) A A1 cA c1 ∧ CBox w' n8 c B cB) 3 ?_
          refine wpAnyU_takes' (i := 0) rfl (by as_aux_lemma => kernel_rfl) (fun _ _ _ _ h => h) HS ?_
          apply Exists.intro
          apply And.intro
          · refine Or.inl (And.intro (by rfl) ?_)
            rintro w ⟨⟨s0, s1, s2, s3⟩, s4, s5⟩
            go_simp
            try rfl
          simp only [Act.put, List.setIfInBounds_toArray, List.set_cons_succ, List.set_cons_zero]
          refine wpAnyU_takes' (i := 1) rfl (by as_aux_lemma => kernel_rfl) (fun _ _ _ _ h => h) HS ?_
          apply Exists.intro
          apply And.intro
          · refine Or.inl (And.intro (by rfl) ?_)
            rintro w ⟨⟨s0, s1, s2, s3⟩, s4, s5⟩
            go_simp
            try rfl
          simp only [Act.put, List.setIfInBounds_toArray, List.set_cons_succ, List.set_cons_zero]
          refine wpAnyT_one' (i := 2) (by as_aux_lemma => kernel_rfl) rfl ?_
          go_wp2_with fail
          refine ⟨⟨(((HS.1.far2 (by show bx ≠ w.heap.size + 1; omega) _).far2 (by show bx ≠ w.heap.size + 1; omega) _).far2 (by show bx ≠ w.heap.size + 1; omega) _).far2 (by show bx ≠ w.heap.size + 1; omega) _, (((HS.2.far2 (by show n8 ≠ w.heap.size + 1; omega) _).far2 (by show n8 ≠ w.heap.size + 1; omega) _).far2 (by show n8 ≠ w.heap.size + 1; omega) _).far2 (by show n8 ≠ w.heap.size + 1; omega) _⟩, ?_⟩
          refine wpAnyT_close (by as_aux_lemma => kernel_rfl) ?_
          refine wpAny_part (k := 3) (n := 1) (f := 0) rfl rfl (by as_aux_lemma => kernel_rfl) ?_
          simp only [List.drop_succ_cons, List.drop_zero, List.take_succ_cons, List.take_zero]
          clear u0 u1 u2 u3 z0 z1 z2 z3 HS
          have m1a := (((m1.set 0 (.int .i64 (claimedL l c ws).lo)).set 1 (.int .i64 (claimedL l c ws).hi)).set 2 (.slice A (claimedL l c ws).gs.length cA)).set 3 (.slice A1 (claimedL l c ws).cs.length c1)
          have m2a := (((m2.far (p := ⟨w.heap.size + 1, 0, none⟩) (by show w.heap.size + 1 + 1 ≠ w.heap.size + 1; omega) (.int .i64 (claimedL l c ws).lo)).far (p := ⟨w.heap.size + 1, 1, none⟩) (by show w.heap.size + 1 + 1 ≠ w.heap.size + 1; omega) (.int .i64 (claimedL l c ws).hi)).far (p := ⟨w.heap.size + 1, 2, none⟩) (by show w.heap.size + 1 + 1 ≠ w.heap.size + 1; omega) (.slice A (claimedL l c ws).gs.length cA)).far (p := ⟨w.heap.size + 1, 3, none⟩) (by show w.heap.size + 1 + 1 ≠ w.heap.size + 1; omega) (.slice A1 (claimedL l c ws).cs.length c1)
          have hoq : ∀ q, Value.ownBlock (.slice A1 (claimN l ws) c1) = some q → q ≠ w.heap.size + 1 := fun q hq => by have := own_base HOZ.out q hq; omega
          have hoq2 : ∀ q, Value.ownBlock (.slice A1 (claimN l ws) c1) = some q → q ≠ w.heap.size + 1 + 1 := fun q hq => by have := own_base HOZ.out q hq; omega
          have hbq : ∀ b off, B = some ⟨b, off, none⟩ → b ≠ w.heap.size + 1 := fun b off e => by have := HBB.out b off e; omega
          have hbq2 : ∀ b off, B = some ⟨b, off, none⟩ → b ≠ w.heap.size + 1 + 1 := fun b off e => by have := HBB.out b off e; omega
          have hO2 := own_far (own_far (own_far (own_far HOZ.out (p := ⟨w.heap.size + 1, 0, none⟩) hoq (.int .i64 (claimedL l c ws).lo)) (p := ⟨w.heap.size + 1, 1, none⟩) hoq (.int .i64 (claimedL l c ws).hi)) (p := ⟨w.heap.size + 1, 2, none⟩) hoq (.slice A (claimedL l c ws).gs.length cA)) (p := ⟨w.heap.size + 1, 3, none⟩) hoq (.slice A1 (claimedL l c ws).cs.length c1)
          have hR2 := (((HRZ.out.far (p := ⟨w.heap.size + 1, 0, none⟩) hbq (.int .i64 (claimedL l c ws).lo)).far (p := ⟨w.heap.size + 1, 1, none⟩) hbq (.int .i64 (claimedL l c ws).hi)).far (p := ⟨w.heap.size + 1, 2, none⟩) hbq (.slice A (claimedL l c ws).gs.length cA)).far (p := ⟨w.heap.size + 1, 3, none⟩) hbq (.slice A1 (claimedL l c ws).cs.length c1)
          have hG2 := (((HGZ.out.setCell (p := ⟨w.heap.size + 1, 0, none⟩) (by show w.heap.size ≤ w.heap.size + 1; omega) (.int .i64 (claimedL l c ws).lo)).setCell (p := ⟨w.heap.size + 1, 1, none⟩) (by show w.heap.size ≤ w.heap.size + 1; omega) (.int .i64 (claimedL l c ws).hi)).setCell (p := ⟨w.heap.size + 1, 2, none⟩) (by show w.heap.size ≤ w.heap.size + 1; omega) (.slice A (claimedL l c ws).gs.length cA)).setCell (p := ⟨w.heap.size + 1, 3, none⟩) (by show w.heap.size ≤ w.heap.size + 1; omega) (.slice A1 (claimedL l c ws).cs.length c1)
          have HM1a := Lib.hid m1a
          have HO2 := Lib.hid hO2
          have HR2 := Lib.hid hR2
          have HG2 := Lib.hid hG2
          clear m1 m2 m1a hO2 hR2 hG2 HOZ HRZ HGZ
          generalize (((z.setCell _ _).setCell _ _).setCell _ _).setCell _ _ = y at *
          have e0 := m2a.cell 0 (v := .int .i64 0) rfl
          have e1 := m2a.cell 1 (v := .slice none 0 0) rfl
          have f0 := m2a.frozen 0
          have f1 := m2a.frozen 1
          go_wp2_with fail
          refine wpAny_done (by as_aux_lemma => kernel_rfl) ?_
          go_wp2_with fail
          clear e0 e1 f0 f1
          have m2b := (m2a.set 0 (.int .i64 c.r)).set 1 (.slice B c.bs.length cB)
          have m1b := (HM1a.out.far (p := ⟨w.heap.size + 1 + 1, 0, none⟩) (by show w.heap.size + 1 ≠ w.heap.size + 1 + 1; omega) (.int .i64 c.r)).far (p := ⟨w.heap.size + 1 + 1, 1, none⟩) (by show w.heap.size + 1 ≠ w.heap.size + 1 + 1; omega) (.slice B c.bs.length cB)
          have hO3 := own_far (own_far HO2.out (p := ⟨w.heap.size + 1 + 1, 0, none⟩) hoq2 (.int .i64 c.r)) (p := ⟨w.heap.size + 1 + 1, 1, none⟩) hoq2 (.slice B c.bs.length cB)
          have hR3 := (HR2.out.far (p := ⟨w.heap.size + 1 + 1, 0, none⟩) hbq2 (.int .i64 c.r)).far (p := ⟨w.heap.size + 1 + 1, 1, none⟩) hbq2 (.slice B c.bs.length cB)
          have hG3 := (HG2.out.setCell (p := ⟨w.heap.size + 1 + 1, 0, none⟩) (by show w.heap.size ≤ w.heap.size + 1 + 1; omega) (.int .i64 c.r)).setCell (p := ⟨w.heap.size + 1 + 1, 1, none⟩) (by show w.heap.size ≤ w.heap.size + 1 + 1; omega) (.slice B c.bs.length cB)
          have x0 := m1b.cell 0 (v := .int .i64 (claimedL l c ws).lo) rfl
          have x1 := m1b.cell 1 (v := .int .i64 (claimedL l c ws).hi) rfl
          have x2 := m1b.cell 2 (v := .slice A (claimedL l c ws).gs.length cA) rfl
          have x3 := m1b.cell 3 (v := .slice A1 (claimedL l c ws).cs.length c1) rfl
          have x4 := m2b.cell 0 (v := .int .i64 c.r) rfl
          have x5 := m2b.cell 1 (v := .slice B c.bs.length cB) rfl
          obtain ⟨A9, c9, e9, -, hr9⟩ := Own3.row hO3
          injection e9 with e9
          subst e9
          rw [HCE.out]
          refine bodyPost_ret (v := .tuple #[ledV (claimedL l c ws) A A1 cA c1, cnV c B cB]) (by simp [results, Try.results46, go_sem, x0, x1, x2, x3, x4, x5]) rfl ⟨⟨B, cB, A1, c1, rfl, ⟨HL.out.g.grow hG3, hr9⟩, hR3⟩, hG3⟩
end Go.Proofs.Ytogdhkecpjndlaa.C
