/- The reference: a count by its number. -/
import Derived.Test.YtogdhkecpjndlaaGH
import Derived.Test.YtogdhkecpjndlaaGF
set_option linter.unusedSimpArgs false
set_option linter.unusedVariables false
namespace Go.Proofs.Ytogdhkecpjndlaa.C
open Go.RowKit
set_option maxRecDepth 100000

theorem nthBs_len : ∀ (gs : List T3) (n : Int), (nthBs n gs).length = gs.length
  | [], _ => rfl
  | g :: gs, n => by rw [nthBs, List.length_cons, nthBs_len gs, List.length_cons]
theorem div_bd {m s : Int} (h0 : 0 ≤ m) (h1 : m ≤ 1000000) (hs : 1 ≤ s) : 0 ≤ m / s ∧ m / s ≤ 1000000 := by
  have h2 : 0 ≤ m / s := Int.ediv_nonneg h0 (by omega)
  have h3 : m / s ≤ m := Int.ediv_le_self _ h0
  omega
theorem mod_bd {m s : Int} (hs : 1 ≤ s) : 0 ≤ m % s ∧ m % s < s := ⟨Int.emod_nonneg _ (by omega), Int.emod_lt_of_pos _ (by omega)⟩

set_option maxHeartbeats 8000000 in
theorem Nth_c {l : Led} {A C : Option Addr} {cA cC : Nat} {n : Int} {w : World} (hV : Valid l) (hG : Row3 w A l.gs) (h0 : 0 ≤ n) (h1 : n ≤ 1000000) :
    Calls Try.prog 40 #[ledV l A C cA cC, .int .i64 n] w fun e w' => (∃ B cB, e = .returned (cnV (nthC l n) B cB) ∧ RowI w' B (nthC l n).bs ∧ ∀ b off, B = some ⟨b, off, none⟩ → w.heap.size ≤ b) ∧ G w w' := by
  have HG := Lib.hid hG
  have HVG := Lib.hid hV.g
  have hng := hV.ng
  have r0 := hV.r0
  have r1 := hV.r1
  have r2 := hV.r2
  have HN : Hid ((nthC l n).r = l.lo + n % (l.hi - l.lo + 1) ∧ (nthC l n).bs = nthBs (n / (l.hi - l.lo + 1)) l.gs) := ⟨rfl, rfl⟩
  have hS1 : 1 ≤ l.hi - l.lo + 1 := by omega
  have hm0 := mod_bd (m := n) hS1
  have hd0 := div_bd h0 h1 hS1
  have htm : n.tmod (l.hi - l.lo + 1) = n % (l.hi - l.lo + 1) := Int.tmod_eq_emod_of_nonneg h0
  have htd : n.tdiv (l.hi - l.lo + 1) = n / (l.hi - l.lo + 1) := Int.tdiv_eq_ediv_of_nonneg h0
  have hnz : ¬ l.hi - l.lo + 1 = 0 := by omega
  clear hG
  go_enter Try.func40, Try.ntmps40
  go_wp2_with fail
  have q0 : Blk ((w.alloc (.cells #[.int .i64 l.lo, .int .i64 l.hi, .slice A l.gs.length cA, .slice C l.cs.length cC] 27)).alloc (.cells #[.int .i64 0, .slice none 0 0] 49)) w.heap.size 27 #[.int .i64 l.lo, .int .i64 l.hi, .slice A l.gs.length cA, .slice C l.cs.length cC] := (Blk.new _ _ _).grow ((G.refl _).alloc _)
  have q1 : Blk ((w.alloc (.cells #[.int .i64 l.lo, .int .i64 l.hi, .slice A l.gs.length cA, .slice C l.cs.length cC] 27)).alloc (.cells #[.int .i64 0, .slice none 0 0] 49)) (w.heap.size + 1) 49 #[.int .i64 0, .slice none 0 0] := Blk.new' (by simp)
  have hB : G w ((w.alloc (.cells #[.int .i64 l.lo, .int .i64 l.hi, .slice A l.gs.length cA, .slice C l.cs.length cC] 27)).alloc (.cells #[.int .i64 0, .slice none 0 0] 49)) := ((G.refl _).alloc _).alloc _
  generalize (w.alloc _).alloc _ = W at *
  have hw1 : IntKind.i64.wrap (n % (l.hi - l.lo + 1)) = n % (l.hi - l.lo + 1) := IntWalk.i64_in _ (by omega)
  have hw2 : IntKind.i64.wrap (l.lo + n % (l.hi - l.lo + 1)) = l.lo + n % (l.hi - l.lo + 1) := IntWalk.i64_in _ (by omega)
  have hqW := q1.lt
  go_cut [5] (fun v5 wc => ∃ n5 : Nat, v5 = .pointer (some ⟨n5, 0, none⟩) ∧ w.heap.size + 1 < n5 ∧ Blk wc n5 49 #[.int .i64 (l.lo + n % (l.hi - l.lo + 1)), .slice none 0 0] ∧ G W wc)
  case first =>
    refine wp_region_A (by as_aux_lemma => kernel_rfl) ?_
    obtain ⟨z, hz⟩ : ∃ z : World, z = { W with drawn := W.drawn + 1 } := ⟨_, rfl⟩
    rw [← hz]
    have gz : G W z := by rw [hz]; exact (G.refl _).drew
    clear hz
    have p0 := q0.grow gz
    have HS : z.cell? ⟨w.heap.size, 0, none⟩ = some (.int .i64 l.lo) ∧ z.cell? ⟨w.heap.size, 1, none⟩ = some (.int .i64 l.hi) := ⟨p0.cell 0 rfl, p0.cell 1 rfl⟩
    have hzs := gz.size
    refine wpAny_fork (fun w' => w'.cell? ⟨w.heap.size, 0, none⟩ = some (.int .i64 l.lo) ∧ w'.cell? ⟨w.heap.size, 1, none⟩ = some (.int .i64 l.hi)) 11 ?_
    refine wpAnyU_takes (i := 0) rfl (by as_aux_lemma => kernel_rfl) (fun _ _ _ _ h => h) HS ?_
    apply Exists.intro
    apply And.intro
    · refine Or.inl (And.intro (by rfl) ?_)
      rintro w ⟨s0, s1⟩
      go_simp
      try rfl
    simp only [Act.put, List.setIfInBounds_toArray, List.set_cons_succ, List.set_cons_zero]
    refine wpAnyU_takes (i := 1) rfl (by as_aux_lemma => kernel_rfl) (fun _ _ _ _ h => h) HS ?_
    apply Exists.intro
    apply And.intro
    · refine Or.inl (And.intro (by rfl) ?_)
      rintro w ⟨s0, s1⟩
      go_simp
      try rfl
    simp only [Act.put, List.setIfInBounds_toArray, List.set_cons_succ, List.set_cons_zero]
    refine wpAnyU_takes (i := 2) rfl (by as_aux_lemma => kernel_rfl) (fun _ _ _ _ h => h) HS ?_
    apply Exists.intro
    apply And.intro
    · refine Or.inl (And.intro (by rfl) ?_)
      rintro w ⟨s0, s1⟩
      go_simp
      try rfl
    simp only [Act.put, List.setIfInBounds_toArray, List.set_cons_succ, List.set_cons_zero]
    refine wpAnyU_takes (i := 3) rfl (by as_aux_lemma => kernel_rfl) (fun _ _ _ _ h => h) HS ?_
    apply Exists.intro
    apply And.intro
    · refine Or.inl (And.intro (by rfl) ?_)
      rintro w ⟨s0, s1⟩
      go_simp
      try rfl
    simp only [Act.put, List.setIfInBounds_toArray, List.set_cons_succ, List.set_cons_zero]
    refine wpAnyU_takes (i := 4) rfl (by as_aux_lemma => kernel_rfl) (fun _ _ _ _ h => h) HS ?_
    apply Exists.intro
    apply And.intro
    · refine Or.inl (And.intro (by rfl) ?_)
      rintro w ⟨s0, s1⟩
      go_simp
      try rfl
    simp only [Act.put, List.setIfInBounds_toArray, List.set_cons_succ, List.set_cons_zero]
    refine wpAnyU_takes (i := 5) rfl (by as_aux_lemma => kernel_rfl) (fun _ _ _ _ h => h) HS ?_
    apply Exists.intro
    apply And.intro
    · refine Or.inl (And.intro (by rfl) ?_)
      rintro w ⟨s0, s1⟩
      go_simp
      try rfl
    simp only [Act.put, List.setIfInBounds_toArray, List.set_cons_succ, List.set_cons_zero]
    refine wpAnyT_two (i := 6) (j := 10) (by as_aux_lemma => kernel_rfl) rfl rfl ?_ ?_
    · go_wp2_with fail
      refine (Size_c l.lo l.hi z (by omega) (by omega) (by omega)).mono ?_
      rintro e w1 ⟨rfl, hb1⟩
      go_wp2_with fail
      replace HS : w1.cell? ⟨w.heap.size, 0, none⟩ = some (.int .i64 l.lo) ∧ w1.cell? ⟨w.heap.size, 1, none⟩ = some (.int .i64 l.hi) := ⟨hb1.cell HS.1, hb1.cell HS.2⟩
      refine ⟨HS, ?_⟩
      refine wpAnyU_takes (i := 7) rfl (by as_aux_lemma => kernel_rfl) (fun _ _ _ _ h => h) HS ?_
      apply Exists.intro
      apply And.intro
      · refine Or.inl (And.intro (by rfl) ?_)
        rintro w ⟨s0, s1⟩
        go_simp
        try rfl
      simp only [Act.put, List.setIfInBounds_toArray, List.set_cons_succ, List.set_cons_zero]
      refine wpAnyU_takes (i := 8) rfl (by as_aux_lemma => kernel_rfl) (fun _ _ _ _ h => h) HS ?_
      apply Exists.intro
      apply And.intro
      · refine Or.inl (And.intro (by rfl) ?_)
        rintro w ⟨s0, s1⟩
        go_simp
        try rfl
      simp only [Act.put, List.setIfInBounds_toArray, List.set_cons_succ, List.set_cons_zero]
      refine wpAnyU_takes (i := 9) rfl (by as_aux_lemma => kernel_rfl) (fun _ _ _ _ h => h) HS ?_
      apply Exists.intro
      apply And.intro
      · refine Or.inl (And.intro (by rfl) ?_)
        rintro w ⟨s0, s1⟩
        go_simp
        try rfl
      simp only [Act.put, List.setIfInBounds_toArray, List.set_cons_succ, List.set_cons_zero]
      refine wpAnyT_one (i := 10) (by as_aux_lemma => kernel_rfl) rfl ?_
      go_wp2_with fail
      have hg := (G.refl w1).alloc (.cells #[.int .i64 0, .slice none 0 0] 49)
      refine ⟨⟨hg.cell HS.1, hg.cell HS.2⟩, ?_⟩
      have b5 : Blk (w1.alloc (.cells #[.int .i64 0, .slice none 0 0] 49)) w1.heap.size 49 #[.int .i64 0, .slice none 0 0] := Blk.new _ _ _
      have gzz := gz.trans (hb1.trans hg)
      have hs1 := hb1.size
      generalize hn5 : w1.heap.size = n5 at *
      generalize w1.alloc _ = V at *
      refine wpAnyT_close (by as_aux_lemma => kernel_rfl) ?_
      refine wpAny_part (k := 11) (n := 1) (f := 0) rfl rfl (by as_aux_lemma => kernel_rfl) ?_
      simp only [List.drop_succ_cons, List.drop_zero, List.take_succ_cons, List.take_zero]
      have c0 := b5.cell 0 (v := .int .i64 0) rfl
      have c1 := b5.cell 1 (v := .slice none 0 0) rfl
      have f0 := b5.frozen 0
      have f1 := b5.frozen 1
      go_wp2_with fail
      refine wpAny_done (by as_aux_lemma => kernel_rfl) ?_
      go_wp2_with fail
      go_meet
      exact ⟨_, rfl, by omega, (b5.set 0 _).set 1 _, (gzz.setCell (by simp; omega) _).setCell (by simp; omega) _⟩
    · go_wp2_with fail
      have hg := (G.refl z).alloc (.cells #[.int .i64 0, .slice none 0 0] 49)
      replace HS : (z.alloc (.cells #[.int .i64 0, .slice none 0 0] 49)).cell? ⟨w.heap.size, 0, none⟩ = some (.int .i64 l.lo) ∧ (z.alloc (.cells #[.int .i64 0, .slice none 0 0] 49)).cell? ⟨w.heap.size, 1, none⟩ = some (.int .i64 l.hi) := ⟨hg.cell HS.1, hg.cell HS.2⟩
      have b50 : Blk (z.alloc (.cells #[.int .i64 0, .slice none 0 0] 49)) z.heap.size 49 #[.int .i64 0, .slice none 0 0] := Blk.new _ _ _
      refine ⟨HS, ?_⟩
      generalize hn5 : z.heap.size = n5 at *
      generalize z.alloc _ = V at *
      refine wpAnyT_one (i := 6) (by as_aux_lemma => kernel_rfl) rfl ?_
      go_wp2_with fail
      refine (Size_c l.lo l.hi V (by omega) (by omega) (by omega)).mono ?_
      rintro e w1 ⟨rfl, hb1⟩
      go_wp2_with fail
      replace HS : w1.cell? ⟨w.heap.size, 0, none⟩ = some (.int .i64 l.lo) ∧ w1.cell? ⟨w.heap.size, 1, none⟩ = some (.int .i64 l.hi) := ⟨hb1.cell HS.1, hb1.cell HS.2⟩
      refine ⟨HS, ?_⟩
      have b5 := b50.grow hb1
      have gzz := gz.trans (hg.trans hb1)
      refine wpAnyU_takes (i := 7) rfl (by as_aux_lemma => kernel_rfl) (fun _ _ _ _ h => h) HS ?_
      apply Exists.intro
      apply And.intro
      · refine Or.inl (And.intro (by rfl) ?_)
        rintro w ⟨s0, s1⟩
        go_simp
        try rfl
      simp only [Act.put, List.setIfInBounds_toArray, List.set_cons_succ, List.set_cons_zero]
      refine wpAnyU_takes (i := 8) rfl (by as_aux_lemma => kernel_rfl) (fun _ _ _ _ h => h) HS ?_
      apply Exists.intro
      apply And.intro
      · refine Or.inl (And.intro (by rfl) ?_)
        rintro w ⟨s0, s1⟩
        go_simp
        try rfl
      simp only [Act.put, List.setIfInBounds_toArray, List.set_cons_succ, List.set_cons_zero]
      refine wpAnyU_takes (i := 9) rfl (by as_aux_lemma => kernel_rfl) (fun _ _ _ _ h => h) HS ?_
      apply Exists.intro
      apply And.intro
      · refine Or.inl (And.intro (by rfl) ?_)
        rintro w ⟨s0, s1⟩
        go_simp
        try rfl
      simp only [Act.put, List.setIfInBounds_toArray, List.set_cons_succ, List.set_cons_zero]
      refine wpAnyT_close (by as_aux_lemma => kernel_rfl) ?_
      refine wpAny_part (k := 11) (n := 1) (f := 0) rfl rfl (by as_aux_lemma => kernel_rfl) ?_
      simp only [List.drop_succ_cons, List.drop_zero, List.take_succ_cons, List.take_zero]
      have c0 := b5.cell 0 (v := .int .i64 0) rfl
      have c1 := b5.cell 1 (v := .slice none 0 0) rfl
      have f0 := b5.frozen 0
      have f1 := b5.frozen 1
      go_wp2_with fail
      refine wpAny_done (by as_aux_lemma => kernel_rfl) ?_
      go_wp2_with fail
      go_meet
      exact ⟨_, rfl, by omega, (b5.set 0 _).set 1 _, (gzz.setCell (by simp; omega) _).setCell (by simp; omega) _⟩
  case rest =>
    obtain ⟨n5, rfl, hn5, b5, hgW⟩ := hcut
    have p0 := q0.grow hgW
    have e0 := p0.cell 0 (v := .int .i64 l.lo) rfl
    have e1 := p0.cell 1 (v := .int .i64 l.hi) rfl
    have hw3 : IntKind.i64.wrap (n / (l.hi - l.lo + 1)) = n / (l.hi - l.lo + 1) := IntWalk.i64_in _ (by omega)
    go_wp2_with fail
    refine (Size_c l.lo l.hi wc (by omega) (by omega) (by omega)).mono ?_
    rintro e w1 ⟨rfl, hb1⟩
    have R0 := Lib.hid (p0.grow hb1)
    have R1 := Lib.hid ((q1.grow hgW).grow hb1)
    have r5 := b5.grow hb1
    have hg1 := hB.trans (hgW.trans hb1)
    have hlt5 := r5.lt
    clear q0 q1 p0 e0 e1 b5
    go_wp2_with fail
    have hs1 := hg1.size
    have HGG := Lib.hid (fun (wr : World) (h : w1.grownBy wr (some n5)) => (hg1.grown h (fun k e => by cases e; omega) : G w wr))
    obtain ⟨full, HFULL⟩ : ∃ f, Hid (nthBs (n / (l.hi - l.lo + 1)) l.gs = f) := ⟨_, rfl⟩
    have HEB : Hid ((nthC l n).bs = full) := HFULL.out
    have HER : Hid ((nthC l n).r = l.lo + n % (l.hi - l.lo + 1)) := rfl
    clear HN
    generalize n / (l.hi - l.lo + 1) = m0 at *
    generalize l.lo + n % (l.hi - l.lo + 1) = r at *
    clear hw1 hw2 hw3 htm htd hm0
    go_loopw [1, 6] (fun v1 v6 wr => ∃ (k : Nat) (m : Int) (v : Value) (xs : List Int), k ≤ l.gs.length ∧ v1 = .int .i64 m ∧ v6 = .int .i64 k ∧ 0 ≤ m ∧ m ≤ 1000000 ∧ Hid (Blk wr n5 49 #[.int .i64 r, v]) ∧ Hid (OwnI w1.heap.size wr v xs) ∧ xs.length = k ∧ Hid (xs ++ nthBs m (l.gs.drop k) = full) ∧ Hid (w1.grownBy wr (some n5))) (fun _ v6 _ => l.gs.length - (intOf v6).toNat)
    case atStart => exact ⟨0, _, _, [], by omega, rfl, rfl, by omega, by omega, r5, OwnI.nil _ _, rfl, by simpa [Hid] using HFULL, (grownBy_of (G.refl _)).but _⟩
    case round =>
      obtain ⟨k, m, v, xs, hk, rfl, rfl, hm0, hm1, HB, HO, hxl, HF, HW⟩ := hrel
      have p2 : wr.cell? ⟨w.heap.size, 2, none⟩ = some (.slice A l.gs.length cA) := grown_cell HW.out (R0.out.cell 2 rfl) (by simp; omega)
      obtain ⟨A1, c1, rfl, -, -⟩ := HO.out.row
      rw [hxl] at HB HO
      by_cases hlt : k < l.gs.length
      · obtain ⟨b, off, rfl, d0, d1, d2⟩ := HG.out.at hlt
        have gw := HGG.out wr HW.out
        have e1 := gw.cell d1
        have e2 := gw.cell d2
        have HD := Lib.hid (List.drop_eq_getElem_cons hlt)
        have hvg := HVG.out l.gs[k] (List.getElem_mem hlt)
        clear d0 d1 d2
        generalize l.gs[k] = g at *
        go_wp2_with fail
        have n7 : Blk (wr.alloc (.cells #[.int .i64 g.lo, .int .i64 g.hi] 23)) wr.heap.size 23 #[.int .i64 g.lo, .int .i64 g.hi] := Blk.new _ _ _
        have hb7 : G wr (wr.alloc (.cells #[.int .i64 g.lo, .int .i64 g.hi] 23)) := (G.refl _).alloc _
        have hW7 : wr.heap.size < (wr.alloc (.cells #[.int .i64 g.lo, .int .i64 g.hi] 23)).heap.size := by simp
        have hWs := HW.out.size
        generalize hn7 : wr.heap.size = n7' at *
        generalize wr.alloc _ = Z at *
        clear e1 e2 p2
        refine wp_region_A (by as_aux_lemma => kernel_rfl) ?_
        obtain ⟨z, hz⟩ : ∃ z : World, z = { Z with drawn := Z.drawn + 1 } := ⟨_, rfl⟩
        rw [← hz]
        have gz : G Z z := by rw [hz]; exact (G.refl _).drew
        clear hz
        have b5 := (HB.out.grow hb7).grow gz
        have p7 := n7.grow gz
        have HS : z.cell? ⟨n5, 1, none⟩ = some (.slice A1 k c1) ∧ z.cell? ⟨n7', 0, none⟩ = some (.int .i64 g.lo) ∧ z.cell? ⟨n7', 1, none⟩ = some (.int .i64 g.hi) := ⟨b5.cell 1 rfl, p7.cell 0 rfl, p7.cell 1 rfl⟩
        have hs : 1 ≤ g.hi - g.lo + 1 := by omega
        have hmm := mod_bd (m := m) hs
        have hdd := div_bd hm0 hm1 hs
        have htm : m.tmod (g.hi - g.lo + 1) = m % (g.hi - g.lo + 1) := Int.tmod_eq_emod_of_nonneg hm0
        have htd : m.tdiv (g.hi - g.lo + 1) = m / (g.hi - g.lo + 1) := Int.tdiv_eq_ediv_of_nonneg hm0
        have hnz : ¬ g.hi - g.lo + 1 = 0 := by omega
        have hw1 : IntKind.i64.wrap (m % (g.hi - g.lo + 1)) = m % (g.hi - g.lo + 1) := IntWalk.i64_in _ (by omega)
        have hw2 : IntKind.i64.wrap (g.lo + m % (g.hi - g.lo + 1)) = g.lo + m % (g.hi - g.lo + 1) := IntWalk.i64_in _ (by omega)
        have hw3 : IntKind.i64.wrap (m / (g.hi - g.lo + 1)) = m / (g.hi - g.lo + 1) := IntWalk.i64_in _ (by omega)
        have HNX := Lib.hid (show nthBs m (g :: l.gs.drop (k + 1)) = (g.lo + m % (g.hi - g.lo + 1)) :: nthBs (m / (g.hi - g.lo + 1)) (l.gs.drop (k + 1)) from rfl)
        refine wpAny_fork (fun w' => w'.cell? ⟨n5, 1, none⟩ = some (.slice A1 k c1) ∧ w'.cell? ⟨n7', 0, none⟩ = some (.int .i64 g.lo) ∧ w'.cell? ⟨n7', 1, none⟩ = some (.int .i64 g.hi)) 10 ?_
        refine wpAnyU_takes (i := 0) rfl (by as_aux_lemma => kernel_rfl) (fun _ _ _ _ h => h) HS ?_
        apply Exists.intro
        apply And.intro
        · refine Or.inl (And.intro (by rfl) ?_)
          rintro w ⟨s0, s1, s2⟩
          go_simp
          try rfl
        simp only [Act.put, List.setIfInBounds_toArray, List.set_cons_succ, List.set_cons_zero]
        refine wpAnyU_takes (i := 1) rfl (by as_aux_lemma => kernel_rfl) (fun _ _ _ _ h => h) HS ?_
        apply Exists.intro
        apply And.intro
        · refine Or.inl (And.intro (by rfl) ?_)
          rintro w ⟨s0, s1, s2⟩
          go_simp
          try rfl
        simp only [Act.put, List.setIfInBounds_toArray, List.set_cons_succ, List.set_cons_zero]
        refine wpAnyU_takes (i := 2) rfl (by as_aux_lemma => kernel_rfl) (fun _ _ _ _ h => h) HS ?_
        apply Exists.intro
        apply And.intro
        · refine Or.inl (And.intro (by rfl) ?_)
          rintro w ⟨s0, s1, s2⟩
          go_simp
          try rfl
        simp only [Act.put, List.setIfInBounds_toArray, List.set_cons_succ, List.set_cons_zero]
        refine wpAnyU_takes (i := 3) rfl (by as_aux_lemma => kernel_rfl) (fun _ _ _ _ h => h) HS ?_
        apply Exists.intro
        apply And.intro
        · refine Or.inl (And.intro (by rfl) ?_)
          rintro w ⟨s0, s1, s2⟩
          go_simp
          try rfl
        simp only [Act.put, List.setIfInBounds_toArray, List.set_cons_succ, List.set_cons_zero]
        refine wpAnyU_takes (i := 4) rfl (by as_aux_lemma => kernel_rfl) (fun _ _ _ _ h => h) HS ?_
        apply Exists.intro
        apply And.intro
        · refine Or.inl (And.intro (by rfl) ?_)
          rintro w ⟨s0, s1, s2⟩
          go_simp
          try rfl
        simp only [Act.put, List.setIfInBounds_toArray, List.set_cons_succ, List.set_cons_zero]
        refine wpAnyU_takes (i := 5) rfl (by as_aux_lemma => kernel_rfl) (fun _ _ _ _ h => h) HS ?_
        apply Exists.intro
        apply And.intro
        · refine Or.inl (And.intro (by rfl) ?_)
          rintro w ⟨s0, s1, s2⟩
          go_simp
          try rfl
        simp only [Act.put, List.setIfInBounds_toArray, List.set_cons_succ, List.set_cons_zero]
        refine wpAnyT_one (i := 6) (by as_aux_lemma => kernel_rfl) rfl ?_
        go_wp2_with fail
        refine (Size_c g.lo g.hi z (by omega) (by omega) (by omega)).mono ?_
        rintro e w2 ⟨rfl, hb2⟩
        go_wp2_with fail
        replace HS : w2.cell? ⟨n5, 1, none⟩ = some (.slice A1 k c1) ∧ w2.cell? ⟨n7', 0, none⟩ = some (.int .i64 g.lo) ∧ w2.cell? ⟨n7', 1, none⟩ = some (.int .i64 g.hi) := ⟨hb2.cell HS.1, hb2.cell HS.2.1, hb2.cell HS.2.2⟩
        refine ⟨HS, ?_⟩
        refine wpAnyU_takes (i := 7) rfl (by as_aux_lemma => kernel_rfl) (fun _ _ _ _ h => h) HS ?_
        apply Exists.intro
        apply And.intro
        · refine Or.inl (And.intro (by rfl) ?_)
          rintro w ⟨s0, s1, s2⟩
          go_simp
          try rfl
        simp only [Act.put, List.setIfInBounds_toArray, List.set_cons_succ, List.set_cons_zero]
        refine wpAnyU_takes (i := 8) rfl (by as_aux_lemma => kernel_rfl) (fun _ _ _ _ h => h) HS ?_
        apply Exists.intro
        apply And.intro
        · refine Or.inl (And.intro (by rfl) ?_)
          rintro w ⟨s0, s1, s2⟩
          go_simp
          try rfl
        simp only [Act.put, List.setIfInBounds_toArray, List.set_cons_succ, List.set_cons_zero]
        refine wpAnyT_one (i := 9) (by as_aux_lemma => kernel_rfl) rfl ?_
        go_wp2_with fail
        generalize hy : g.lo + m % (g.hi - g.lo + 1) = y at *
        have hg3 := (G.refl w2).alloc (.cells #[.int .i64 y] 3)
        refine ⟨⟨hg3.cell HS.1, hg3.cell HS.2.1, hg3.cell HS.2.2⟩, ?_⟩
        refine wpAnyT_close (by as_aux_lemma => kernel_rfl) ?_
        refine wpAny_part (k := 10) (n := 3) (f := 0) rfl rfl (by as_aux_lemma => kernel_rfl) ?_
        simp only [List.drop_succ_cons, List.drop_zero, List.take_succ_cons, List.take_zero]
        have G3 := hb7.trans (gz.trans (hb2.trans hg3))
        have HO3 := Lib.hid (OwnI.grow HO.out G3)
        have HB3 := Lib.hid (HB.out.grow G3)
        have P3 := Lib.hid (p7.grow (hb2.trans hg3))
        have hs3 := G3.size
        have hs2 := (gz.trans hb2).size
        refine app_i w1.heap.size rfl _ _ rfl _ xs y rfl w2.heap.size rfl (newCell _ _ _ _ rfl) HO3.out (by omega) (by omega) ?_
        intro v4 w4 o1 o2 o3
        have W4 := Lib.hid (grownBy_far (grownBy_G HW.out G3) o2 (fun q hq => by have := own_base HO.out q hq; omega))
        have B4 := Blk.grown HB3.out o2 (fun e => by have := own_base HO3.out n5 e.symm; omega)
        have P4 : Blk w4 n7' 23 #[.int .i64 g.lo, .int .i64 g.hi] := Blk.grown P3.out o2 (fun e => by have := own_lt HO.out n7' e.symm; omega)
        obtain ⟨A4, c4, rfl, -, -⟩ := o1.row
        rw [show (xs ++ [y]).length = k + 1 by simp [hxl]] at o1 ⊢
        have O4 := Lib.hid o1
        have P4' := Lib.hid P4
        have u4 := B4.cell 1 (v := .slice A1 k c1) rfl
        have z4 := B4.frozen 1
        clear o1 o2 o3 P4
        go_wp2_with fail
        refine wpAny_done (by as_aux_lemma => kernel_rfl) ?_
        have B5 := B4.set 1 (.slice A4 (k + 1) c4)
        have O5 := own_block O4.out (w1 := w4.setCell ⟨n5, 1, none⟩ (.slice A4 (k + 1) c4)) (fun q hq => Below.heap_setCell _ _ _ _ (by have := own_base O4.out q hq; show q ≠ n5; omega))
        have P5 := P4'.out.far (p := ⟨n5, 1, none⟩) (by simp; omega) (.slice A4 (k + 1) c4)
        have W5 := grownBy_trans W4.out (grownBy_set w4 ⟨n5, 1, none⟩ (.slice A4 (k + 1) c4))
        generalize w4.setCell _ _ = U at *
        have t0 := P5.cell 0 (v := .int .i64 g.lo) rfl
        have t1 := P5.cell 1 (v := .int .i64 g.hi) rfl
        go_wp2_with fail
        refine (Size_c g.lo g.hi U (by omega) (by omega) (by omega)).mono ?_
        rintro e w6 ⟨rfl, hb6⟩
        clear t0 t1
        go_wp2_with fail
        go_roundw
        case rel => exact ⟨k + 1, _, _, xs ++ [y], by omega, rfl, by go_num, by omega, by omega, B5.grow hb6, own_grow O5 hb6, by simp [hxl], by
          have h := HF.out
          rw [HD.out, HNX.out] at h
          rw [Hid, List.append_assoc]
          exact h, grownBy_G W5 hb6⟩
        case measure => simp [intOf]; omega
      · have hxl' : xs = full := by
          have h := HF.out
          rw [List.drop_eq_nil_of_le (by omega), nthBs, List.append_nil] at h
          exact h
        obtain rfl : k = l.gs.length := by omega
        rw [hxl'] at HO hxl
        have u0 := HB.out.cell 0 (v := .int .i64 r) rfl
        have u1 := HB.out.cell 1 (v := .slice A1 l.gs.length c1) rfl
        have q1 := Blk.grown R1.out HW.out (by simp; omega)
        have t0 := q1.cell 0 (v := .int .i64 0) rfl
        have t1 := q1.cell 1 (v := .slice none 0 0) rfl
        have z0 := q1.frozen 0
        have z1 := q1.frozen 1
        have gW := HGG.out wr HW.out
        have HFR := Lib.hid hxl
        clear hxl hxl'
        go_wp2_with fail
        have q2 := (q1.set 0 (.int .i64 r)).set 1 (.slice A1 l.gs.length c1)
        have x0 := q2.cell 0 (v := .int .i64 r) rfl
        have x1 := q2.cell 1 (v := .slice A1 l.gs.length c1) rfl
        have O5 := own_block HO.out (w1 := (wr.setCell ⟨w.heap.size + 1, 0, none⟩ (.int .i64 r)).setCell ⟨w.heap.size + 1, 1, none⟩ (.slice A1 l.gs.length c1)) (fun q hq => by
          have hq2 := own_base HO.out q hq
          rw [Below.heap_setCell _ _ _ _ (by show q ≠ w.heap.size + 1; omega), Below.heap_setCell _ _ _ _ (by show q ≠ w.heap.size + 1; omega)])
        obtain ⟨A9, c9, e9, -, r9⟩ := OwnI.row O5
        simp only [Value.slice.injEq] at e9
        obtain ⟨rfl, -, rfl⟩ := e9
        refine bodyPost_ret (v := .agg #[.int .i64 r, .slice A1 l.gs.length c1]) (by simp [results, Try.results40, go_sem, x0, x1]) rfl ⟨⟨A1, c1, ?_, ?_, ?_⟩, (gW.setCell (by simp) _).setCell (by simp) _⟩
        · rw [cnV, HEB.out, HER.out, HFR.out]
        · rw [HEB.out]
          exact r9
        · intro b off e
          subst e
          have := own_base O5 b rfl
          omega
end Go.Proofs.Ytogdhkecpjndlaa.C
