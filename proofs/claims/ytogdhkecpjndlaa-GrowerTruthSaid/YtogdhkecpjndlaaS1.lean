/- The laws' helper that keeps some of a ledger's claims. -/
import Derived.Test.YtogdhkecpjndlaaW3
set_option linter.unusedSimpArgs false
set_option linter.unusedVariables false
namespace Go.Proofs.Ytogdhkecpjndlaa.C
open Go.RowKit
set_option maxRecDepth 100000

def someC (b : Nat) : List T3 → Nat → List T3
  | [], _ => []
  | x :: xs, i => if b.testBit i = true then x :: someC b xs (i + 1) else someC b xs (i + 1)
def someL (l : Led) (b : Nat) : Led := withC l (someC b l.cs 0)
theorem info97 : (Try.prog.info? 97).map (fun i => (i.zero, i.size, i.bytes)) = some (some (.agg #[(.int .i64 0), (.int .i64 0), (.int .i64 0)]), 3, 24) := by kernel_rfl
theorem bit_of : ∀ (b : Fin 64) (k : Fin 6), ((((b.val : Int) / 2 ^ k.val)).tmod 2 == 1) = b.val.testBit k.val := by decide +kernel
theorem someC_len (b : Nat) : ∀ (xs : List T3) (i : Nat), (someC b xs i).length ≤ xs.length
  | [], _ => Nat.le_refl _
  | x :: xs, i => by
    have := someC_len b xs (i + 1)
    rw [someC]
    split <;> simp <;> omega

theorem someC_snoc (b : Nat) : ∀ (xs : List T3) (y : T3) (i : Nat), someC b (xs ++ [y]) i = if b.testBit (i + xs.length) = true then someC b xs i ++ [y] else someC b xs i
  | [], y, i => by simp [someC]
  | x :: xs, y, i => by
    have h := someC_snoc b xs y (i + 1)
    rw [show i + 1 + xs.length = i + (x :: xs).length by simp; omega] at h
    rw [List.cons_append, someC, h, someC]
    split <;> split <;> rfl
theorem someC_take {b k : Nat} {xs : List T3} (h : k < xs.length) : someC b (xs.take (k + 1)) 0 = if b.testBit k = true then someC b (xs.take k) 0 ++ [xs[k]] else someC b (xs.take k) 0 := by
  rw [List.take_succ_eq_append_getElem h, someC_snoc, show 0 + (xs.take k).length = k by simp; omega]
set_option maxHeartbeats 8000000 in
theorem some_c {l : Led} {A C : Option Addr} {cA cC : Nat} {b : Nat} {w : World} (hL : LedR w l A C) (hb : b < 64) (hc : l.cs.length ≤ 5) :
    Calls Try.prog 45 #[ledV l A C cA cC, .int .i64 b] w fun e w' => (∃ C' cC', e = .returned (ledV (someL l b) A C' cA cC') ∧ LedR w' (someL l b) A C') ∧ G w w' := by
  have HL := Lib.hid hL
  have HC := Lib.hid hL.c
  clear hL
  go_enter Try.func45, Try.ntmps45
  go_upto_region 1 with fail
  have hB : G w ((w.alloc (.cells #[.int .i64 l.lo, .int .i64 l.hi, .slice A l.gs.length cA, .slice C l.cs.length cC] 27)).alloc (.cells #[.int .i64 0, .int .i64 0, .slice none 0 0, .slice none 0 0] 27)) := ((G.refl _).alloc _).alloc _
  have q0 : Blk ((w.alloc (.cells #[.int .i64 l.lo, .int .i64 l.hi, .slice A l.gs.length cA, .slice C l.cs.length cC] 27)).alloc (.cells #[.int .i64 0, .int .i64 0, .slice none 0 0, .slice none 0 0] 27)) w.heap.size 27 #[.int .i64 l.lo, .int .i64 l.hi, .slice A l.gs.length cA, .slice C l.cs.length cC] := (Blk.new _ _ _).grow ((G.refl _).alloc _)
  have q1 : Blk ((w.alloc (.cells #[.int .i64 l.lo, .int .i64 l.hi, .slice A l.gs.length cA, .slice C l.cs.length cC] 27)).alloc (.cells #[.int .i64 0, .int .i64 0, .slice none 0 0, .slice none 0 0] 27)) (w.heap.size + 1) 27 #[.int .i64 0, .int .i64 0, .slice none 0 0, .slice none 0 0] := Blk.new' (by simp)
  have hs1 : ((w.alloc (.cells #[.int .i64 l.lo, .int .i64 l.hi, .slice A l.gs.length cA, .slice C l.cs.length cC] 27)).alloc (.cells #[.int .i64 0, .int .i64 0, .slice none 0 0, .slice none 0 0] 27)).heap.size = w.heap.size + 2 := by simp
  generalize (w.alloc _).alloc _ = W at *
  have f0 := q0.cell 0 (v := .int .i64 l.lo) rfl
  have f1 := q0.cell 1 (v := .int .i64 l.hi) rfl
  have f2 := q0.cell 2 (v := .slice A l.gs.length cA) rfl
  have f3 := q0.cell 3 (v := .slice C l.cs.length cC) rfl
  go_wp2_with fail
  have hB2 : G w (W.alloc (.cells #[.int .i64 l.lo, .int .i64 l.hi, .slice A l.gs.length cA, .slice none 0 0] 27)) := hB.alloc _
  have r0 := q0.grow ((G.refl W).alloc (.cells #[.int .i64 l.lo, .int .i64 l.hi, .slice A l.gs.length cA, .slice none 0 0] 27))
  have r1 := q1.grow ((G.refl W).alloc (.cells #[.int .i64 l.lo, .int .i64 l.hi, .slice A l.gs.length cA, .slice none 0 0] 27))
  have r2 : Blk (W.alloc (.cells #[.int .i64 l.lo, .int .i64 l.hi, .slice A l.gs.length cA, .slice none 0 0] 27)) (w.heap.size + 2) 27 #[.int .i64 l.lo, .int .i64 l.hi, .slice A l.gs.length cA, .slice none 0 0] := Blk.new' (by omega)
  have hs2 : (W.alloc (.cells #[.int .i64 l.lo, .int .i64 l.hi, .slice A l.gs.length cA, .slice none 0 0] 27)).heap.size = w.heap.size + 3 := by simp; omega
  clear f0 f1 f2 f3 q0 q1 hB
  generalize W.alloc _ = V at *
  clear hs1
  have HV0 := Lib.hid (fun (wr : World) (h : V.grownBy wr (some (w.heap.size + 2))) => (hB2.grown h (fun k e => by cases e; omega) : G w wr))
  go_loopw [6] (fun v6 wr => ∃ (k : Nat) (v : Value), k ≤ l.cs.length ∧ v6 = .int .i64 k ∧ Hid (Blk wr (w.heap.size + 2) 27 #[.int .i64 l.lo, .int .i64 l.hi, .slice A l.gs.length cA, v]) ∧ Hid (Own3 97 (w.heap.size + 3) wr v (someC b (l.cs.take k) 0)) ∧ Hid (V.grownBy wr (some (w.heap.size + 2)))) (fun v6 _ => l.cs.length - (intOf v6).toNat)
  case atStart => exact ⟨0, .slice none 0 0, by omega, rfl, r2, Own3.nil _ _ _, grownBy_of (G.refl _) |>.but _⟩
  case round =>
    obtain ⟨k, v, hk, rfl, HB, HO, HW⟩ := hrel
    have hlm : (someC b (l.cs.take k) 0).length ≤ 5 := by have := someC_len b (l.cs.take k) 0; simp at this; omega
    obtain ⟨m, HM⟩ : ∃ m, Hid ((someC b (l.cs.take k) 0).length = m) := ⟨_, Lib.hid rfl⟩
    obtain ⟨A1, c1, rfl, hc1, -⟩ := HO.out.row
    rw [HM.out] at HB HO hc1 hlm
    have p2 : wr.cell? ⟨w.heap.size, 3, none⟩ = some (.slice C l.cs.length cC) := grown_cell HW.out (r0.cell 3 rfl) (by simp)
    by_cases hlt : k < l.cs.length
    · obtain ⟨bl, off, rfl, d0, d1, d2⟩ := HC.out.at hlt
      have gw := HV0.out wr HW.out
      have e0 := gw.cell d0
      have e1 := gw.cell d1
      have e2 := gw.cell d2
      have e3 := HB.out.cell 3 (v := .slice A1 m c1) rfl
      clear d0 d1 d2
      generalize hgk : l.cs[k] = g at *
      have HK := Lib.hid hgk
      clear hgk
      have hsh : ((((b : Int) / 2 ^ k)).tmod 2 == 1) = b.testBit k := bit_of ⟨b, hb⟩ ⟨k, by omega⟩
      by_cases hbit : b.testBit k = true
      · rw [hbit] at hsh
        have HT := Lib.hid hbit
        clear hbit
        go_wp2_with fail
        clear hsh
        refine wp_region_A (by as_aux_lemma => kernel_rfl) ?_
        obtain ⟨z, hz⟩ : ∃ z : World, z = { wr with drawn := wr.drawn + 1 } := ⟨_, rfl⟩
        rw [← hz]
        have gz : G wr z := by rw [hz]; exact (G.refl _).drew
        clear hz
        have HS : z.cell? ⟨w.heap.size + 2, 3, none⟩ = some (.slice A1 m c1) ∧ z.cell? ⟨w.heap.size, 3, none⟩ = some (.slice (some ⟨bl, off, none⟩) l.cs.length cC) ∧ z.cell? ⟨bl, off + k * 3, none⟩ = some (.int .i64 g.a) ∧ z.cell? ⟨bl, off + k * 3 + 1, none⟩ = some (.int .i64 g.lo) ∧ z.cell? ⟨bl, off + k * 3 + 2, none⟩ = some (.int .i64 g.hi) := ⟨gz.cell e3, gz.cell p2, gz.cell e0, gz.cell e1, gz.cell e2⟩
        clear e0 e1 e2 e3 p2
        refine wpAny_fork (fun w' => w'.cell? ⟨w.heap.size + 2, 3, none⟩ = some (.slice A1 m c1) ∧ w'.cell? ⟨w.heap.size, 3, none⟩ = some (.slice (some ⟨bl, off, none⟩) l.cs.length cC) ∧ w'.cell? ⟨bl, off + k * 3, none⟩ = some (.int .i64 g.a) ∧ w'.cell? ⟨bl, off + k * 3 + 1, none⟩ = some (.int .i64 g.lo) ∧ w'.cell? ⟨bl, off + k * 3 + 2, none⟩ = some (.int .i64 g.hi)) 8 ?_
        refine wpAnyU_takes (i := 0) rfl (by as_aux_lemma => kernel_rfl) (fun _ _ _ _ h => h) HS ?_
        apply Exists.intro
        apply And.intro
        · refine Or.inl (And.intro (by rfl) ?_)
          rintro w ⟨s0, s1, s2, s3, s4⟩
          go_simp
          try rfl
        simp only [Act.put, List.setIfInBounds_toArray, List.set_cons_succ, List.set_cons_zero]
        refine wpAnyU_takes (i := 1) rfl (by as_aux_lemma => kernel_rfl) (fun _ _ _ _ h => h) HS ?_
        apply Exists.intro
        apply And.intro
        · refine Or.inl (And.intro (by rfl) ?_)
          rintro w ⟨s0, s1, s2, s3, s4⟩
          go_simp
          try rfl
        simp only [Act.put, List.setIfInBounds_toArray, List.set_cons_succ, List.set_cons_zero]
        refine wpAnyU_takes (i := 2) rfl (by as_aux_lemma => kernel_rfl) (fun _ _ _ _ h => h) HS ?_
        apply Exists.intro
        apply And.intro
        · refine Or.inl (And.intro (by rfl) ?_)
          rintro w ⟨s0, s1, s2, s3, s4⟩
          go_simp
          try rfl
        simp only [Act.put, List.setIfInBounds_toArray, List.set_cons_succ, List.set_cons_zero]
        refine wpAnyU_takes (i := 3) rfl (by as_aux_lemma => kernel_rfl) (fun _ _ _ _ h => h) HS ?_
        apply Exists.intro
        apply And.intro
        · refine Or.inl (And.intro (by rfl) ?_)
          rintro w ⟨s0, s1, s2, s3, s4⟩
          go_simp
          try rfl
        simp only [Act.put, List.setIfInBounds_toArray, List.set_cons_succ, List.set_cons_zero]
        refine wpAnyU_takes (i := 4) rfl (by as_aux_lemma => kernel_rfl) (fun _ _ _ _ h => h) HS ?_
        apply Exists.intro
        apply And.intro
        · refine Or.inl (And.intro (by rfl) ?_)
          rintro w ⟨s0, s1, s2, s3, s4⟩
          go_simp
          try rfl
        simp only [Act.put, List.setIfInBounds_toArray, List.set_cons_succ, List.set_cons_zero]
        refine wpAnyU_takes (i := 5) rfl (by as_aux_lemma => kernel_rfl) (fun _ _ _ _ h => h) HS ?_
        apply Exists.intro
        apply And.intro
        · refine Or.inl (And.intro (by rfl) ?_)
          rintro w ⟨s0, s1, s2, s3, s4⟩
          go_simp
          try rfl
        simp only [Act.put, List.setIfInBounds_toArray, List.set_cons_succ, List.set_cons_zero]
        refine wpAnyU_takes (i := 6) rfl (by as_aux_lemma => kernel_rfl) (fun _ _ _ _ h => h) HS ?_
        apply Exists.intro
        apply And.intro
        · refine Or.inl (And.intro (by rfl) ?_)
          rintro w ⟨s0, s1, s2, s3, s4⟩
          go_simp
          try rfl
        simp only [Act.put, List.setIfInBounds_toArray, List.set_cons_succ, List.set_cons_zero]
        refine wpAnyT_one (i := 7) (by as_aux_lemma => kernel_rfl) rfl ?_
        go_wp2_with fail
        have hb3 := (G.refl z).alloc (.cells #[.int .i64 g.a, .int .i64 g.lo, .int .i64 g.hi] 97)
        refine ⟨⟨hb3.cell HS.1, hb3.cell HS.2.1, hb3.cell HS.2.2.1, hb3.cell HS.2.2.2.1, hb3.cell HS.2.2.2.2⟩, ?_⟩
        refine wpAnyT_close (by as_aux_lemma => kernel_rfl) ?_
        refine wpAny_part (k := 8) (n := 3) (f := 0) rfl rfl (by as_aux_lemma => kernel_rfl) ?_
        simp only [List.drop_succ_cons, List.drop_zero, List.take_succ_cons, List.take_zero]
        have G3 : G wr (z.alloc (.cells #[.int .i64 g.a, .int .i64 g.lo, .int .i64 g.hi] 97)) := gz.trans hb3
        have hsz := HW.out.size
        have hsz2 := G3.size
        have HO3 := Lib.hid (own_grow HO.out G3)
        have HB3 := Lib.hid (HB.out.grow G3)
        have hl8 : (someC b (l.cs.take k) 0).length ≤ 100000000 := by rw [HM.out]; omega
        have hn9 : (someC b (l.cs.take k) 0).length = m := HM.out
        refine app_3 25 97 Try.underlying25 info97 (w.heap.size + 3) rfl _ _ rfl _ (someC b (l.cs.take k) 0) g rfl z.heap.size rfl (newCell _ _ _ _ rfl) (newCell _ _ _ _ rfl) (newCell _ _ _ _ rfl) HO3.out (by have := gz.size; omega) hl8 ?_
        intro v4 w4 o1 o2 o3
        have G4 : wr.grownBy w4 (Value.ownBlock (.slice A1 m c1)) := grownBy_trans ((grownBy_of G3).but _) o2
        have W4 := Lib.hid (grownBy_far HW.out G4 (fun g hg => by have := own_base HO.out g hg; omega))
        have B4 := Blk.grown HB3.out o2 (fun e => by have := own_base HO3.out _ e.symm; omega)
        obtain ⟨A4, c4, e4, -, -⟩ := o1.row
        rw [show (someC b (l.cs.take k) 0 ++ [g]).length = m + 1 by rw [List.length_append, hn9]; rfl] at e4
        subst e4
        have O4 := Lib.hid o1
        have u4 := B4.cell 3 (v := .slice A1 m c1) rfl
        have z4 := B4.frozen 3
        clear o1 o2 o3 G4 hn9
        go_wp2_with fail
        refine wpAny_done (by as_aux_lemma => kernel_rfl) ?_
        go_wp2_with fail
        go_roundw
        case rel => exact ⟨k + 1, _, by omega, by go_num, B4.set 3 _, by
          rw [Hid, someC_take hlt, HK.out, if_pos HT.out]
          exact own_block O4.out (fun q hq => Below.heap_setCell _ _ _ _ (by have := own_base O4.out q hq; show q ≠ w.heap.size + 2; omega)), grownBy_trans W4.out (grownBy_set _ _ _)⟩
        case measure => simp [intOf]; omega
      · rw [Bool.not_eq_true] at hbit
        rw [hbit] at hsh
        have HT := Lib.hid hbit
        clear hbit
        go_wp2_with fail
        clear hsh
        go_roundw
        case rel => exact ⟨k + 1, _, by omega, by go_num, HB.out, by
          rw [Hid, someC_take hlt, if_neg (by rw [HT.out]; decide)]
          exact HO.out, HW.out⟩
        case measure => simp [intOf]; omega
    · obtain rfl : k = l.cs.length := by omega
      have hlm2 : (someC b l.cs 0).length = m := by rw [← HM.out, List.take_length]
      have HO1 : Hid (Own3 97 (w.heap.size + 3) wr (.slice A1 m c1) (someC b l.cs 0)) := by have h := HO.out; rwa [List.take_length] at h
      clear HO
      have u0 := HB.out.cell 0 (v := .int .i64 l.lo) rfl
      have u1 := HB.out.cell 1 (v := .int .i64 l.hi) rfl
      have u2 := HB.out.cell 2 (v := .slice A l.gs.length cA) rfl
      have u3 := HB.out.cell 3 (v := .slice A1 m c1) rfl
      have q1 := Blk.grown r1 HW.out (by simp)
      have t0 := q1.cell 0 (v := .int .i64 0) rfl
      have t1 := q1.cell 1 (v := .int .i64 0) rfl
      have t2 := q1.cell 2 (v := .slice none 0 0) rfl
      have t3 := q1.cell 3 (v := .slice none 0 0) rfl
      have z0 := q1.frozen 0
      have z1 := q1.frozen 1
      have z2 := q1.frozen 2
      have z3 := q1.frozen 3
      have gW := HV0.out wr HW.out
      obtain ⟨A6, c6, e6, hc6, R2⟩ := Own3.row HO1.out
      rw [hlm2] at e6
      cases e6
      have HR2 := Lib.hid R2
      have hb2 : ∀ b off, A1 = some ⟨b, off, none⟩ → w.heap.size + 3 ≤ b := fun b off e => by subst e; exact own_base HO1.out b rfl
      have HB3 := Lib.hid hb2
      have HLM := Lib.hid hlm2
      clear R2 hb2 hlm2
      go_wp2_with fail
      have q2 := (((q1.set 0 (.int .i64 l.lo)).set 1 (.int .i64 l.hi)).set 2 (.slice A l.gs.length cA)).set 3 (.slice A1 m c1)
      have x0 := q2.cell 0 (v := .int .i64 l.lo) rfl
      have x1 := q2.cell 1 (v := .int .i64 l.hi) rfl
      have x2 := q2.cell 2 (v := .slice A l.gs.length cA) rfl
      have x3 := q2.cell 3 (v := .slice A1 m c1) rfl
      have gS : wr.grownBy ((((wr.setCell ⟨w.heap.size + 1, 0, none⟩ (.int .i64 l.lo)).setCell ⟨w.heap.size + 1, 1, none⟩ (.int .i64 l.hi)).setCell ⟨w.heap.size + 1, 2, none⟩ (.slice A l.gs.length cA)).setCell ⟨w.heap.size + 1, 3, none⟩ (.slice A1 m c1)) (some (w.heap.size + 1)) :=
        grownBy_trans (grownBy_trans (grownBy_trans (grownBy_set _ _ _) (grownBy_set _ _ _)) (grownBy_set _ _ _)) (grownBy_set _ _ _)
      have gT : G w ((((wr.setCell ⟨w.heap.size + 1, 0, none⟩ (.int .i64 l.lo)).setCell ⟨w.heap.size + 1, 1, none⟩ (.int .i64 l.hi)).setCell ⟨w.heap.size + 1, 2, none⟩ (.slice A l.gs.length cA)).setCell ⟨w.heap.size + 1, 3, none⟩ (.slice A1 m c1)) := (((gW.setCell (by simp) _).setCell (by simp) _).setCell (by simp) _).setCell (by simp) _
      have hE : ledV (someL l b) A A1 cA c1 = .agg #[.int .i64 l.lo, .int .i64 l.hi, .slice A l.gs.length cA, .slice A1 m c1] := by
        show ledV (withC l (someC b l.cs 0)) A A1 cA c1 = _
        rw [← HLM.out]; rfl
      refine bodyPost_ret (v := ledV (someL l b) A A1 cA c1) (by rw [hE]; simp [results, Try.results45, go_sem, x0, x1, x2, x3]) rfl ⟨⟨A1, c1, rfl, ⟨HL.out.g.grow gT, HR2.out.grown gS (fun b off e => by have := HB3.out b off e; intro e; cases e; omega)⟩⟩, gT⟩
end Go.Proofs.Ytogdhkecpjndlaa.C
