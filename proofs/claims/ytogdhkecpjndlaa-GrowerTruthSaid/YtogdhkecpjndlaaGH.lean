/- Texts joined: R1 R2 R3 R4. -/
import Derived.Test.YtogdhkecpjndlaaGL
set_option linter.unusedSimpArgs false
set_option linter.unusedVariables false
/- The reference: which claims are right with a count, by bits; whether something is a count, a truth. -/
namespace Go.Proofs.Ytogdhkecpjndlaa.C
open Go.RowKit
set_option maxRecDepth 100000

def rightFrom (l : Led) (c : Cn) : Nat → List T3 → Nat
  | _, [] => 0
  | i, x :: xs => (if rightC l c x = true then 2 ^ i else 0) + rightFrom l c (i + 1) xs
def rightN (l : Led) (c : Cn) : Nat := rightFrom l c 0 l.cs

theorem or_bits : ∀ (k : Fin 5) (a : Fin 16), a.val < 2 ^ k.val → bits BinOp.or IntKind.i64 (a.val : Int) ((2 : Int) ^ k.val) = ((a.val + 2 ^ k.val : Nat) : Int) := by decide +kernel
theorem or_bits' {k a : Nat} (hk : k < 5) (ha : a < 2 ^ k) : bits BinOp.or IntKind.i64 (a : Int) ((2 : Int) ^ k) = ((a + 2 ^ k : Nat) : Int) := by
  have h16 : (2 : Nat) ^ k ≤ 2 ^ 4 := Nat.pow_le_pow_right (by omega) (by omega)
  exact or_bits ⟨k, hk⟩ ⟨a, by omega⟩ ha
theorem pow_wrap : ∀ k : Fin 6, wrap64 ((2 : Int) ^ k.val) = (2 : Int) ^ k.val := by decide +kernel

set_option maxHeartbeats 4000000 in
theorem Right_c {l : Led} {A C B : Option Addr} {cA cC cB : Nat} {c : Cn} {w : World} (hV : Valid l) (hK : CntOk l c) (hL : LedR w l A C) (hB : RowI w B c.bs) :
    Calls Try.prog 96 #[ledV l A C cA cC, cnV c B cB] w fun e w' => e = .returned (.int .i64 (rightN l c)) ∧ G w w' := by
  have HO := Lib.hid (fun (g : Nat) (hg : g < l.gs.length) (w1 : World) (h : G w w1) => Owed_c (C := C) (cA := cA) (cC := cC) (cB := cB) hV hK (hL.g.grow h) (hB.grow h) hg)
  have HC := Lib.hid hL.c
  have HVC := Lib.hid hV.c
  have hnc := hV.nc
  clear hL hB
  go_enter Try.func96, Try.ntmps96
  go_wp2_with fail
  have q0 : Blk ((w.alloc (.cells #[.int .i64 l.lo, .int .i64 l.hi, .slice A l.gs.length cA, .slice C l.cs.length cC] 27)).alloc (.cells #[.int .i64 c.r, .slice B c.bs.length cB] 49)) w.heap.size 27 #[.int .i64 l.lo, .int .i64 l.hi, .slice A l.gs.length cA, .slice C l.cs.length cC] := (Blk.new _ _ _).grow ((G.refl _).alloc _)
  have q1 : Blk ((w.alloc (.cells #[.int .i64 l.lo, .int .i64 l.hi, .slice A l.gs.length cA, .slice C l.cs.length cC] 27)).alloc (.cells #[.int .i64 c.r, .slice B c.bs.length cB] 49)) (w.heap.size + 1) 49 #[.int .i64 c.r, .slice B c.bs.length cB] := Blk.new' (by simp)
  have hB0 : G w ((w.alloc (.cells #[.int .i64 l.lo, .int .i64 l.hi, .slice A l.gs.length cA, .slice C l.cs.length cC] 27)).alloc (.cells #[.int .i64 c.r, .slice B c.bs.length cB] 49)) := ((G.refl _).alloc _).alloc _
  generalize (w.alloc _).alloc _ = W at *
  have Q0 := Lib.hid q0
  have Q1 := Lib.hid q1
  clear q0 q1
  go_loopw [5, 6] (fun v5 v6 wr => ∃ (k acc : Nat), k ≤ l.cs.length ∧ v6 = .int .i64 k ∧ v5 = .int .i64 acc ∧ acc < 2 ^ k ∧ Hid (acc + rightFrom l c k (l.cs.drop k) = rightN l c) ∧ G W wr) (fun _ v6 _ => l.cs.length - (intOf v6).toNat)
  case atStart => exact ⟨0, 0, by omega, rfl, rfl, by simp, by simp [Hid, rightN], G.refl _⟩
  case round =>
    obtain ⟨k, acc, hk, rfl, rfl, hacc, HR, hbr⟩ := hrel
    have r0 := Q0.out.grow hbr
    have f3 := r0.cell 3 (v := .slice C l.cs.length cC) rfl
    by_cases hlt : k < l.cs.length
    · obtain ⟨b, off, rfl, d0, d1, d2⟩ := HC.out.at hlt
      have e0 := (hB0.trans hbr).cell d0
      have e1 := (hB0.trans hbr).cell d1
      have e2 := (hB0.trans hbr).cell d2
      clear d0 d1 d2
      have HD := Lib.hid (List.drop_eq_getElem_cons hlt)
      have hvx := HVC.out l.cs[k] (List.getElem_mem hlt)
      generalize l.cs[k] = x at *
      obtain ⟨g, hgx⟩ : ∃ g : Nat, x.a = g := ⟨x.a.toNat, by omega⟩
      have hgl : g < l.gs.length := by omega
      have HGX := Lib.hid hgx
      rw [hgx] at e0
      have hRC : Hid (rightC l c x = inB (owed l c g) x.lo x.hi) := by unfold Hid rightC; rw [hgx]; rfl
      clear hgx
      go_wp2_with fail
      have n0 : Blk (wr.alloc (.cells #[.int .i64 g, .int .i64 x.lo, .int .i64 x.hi] 97)) wr.heap.size 97 #[.int .i64 g, .int .i64 x.lo, .int .i64 x.hi] := Blk.new _ _ _
      have hb1 : G wr (wr.alloc (.cells #[.int .i64 g, .int .i64 x.lo, .int .i64 x.hi] 97)) := (G.refl _).alloc _
      have N0 := Lib.hid n0
      clear n0 e0 e1 e2 f3
      generalize hn : wr.heap.size = n at *
      generalize wr.alloc _ = Z at *
      refine wp_region_A (by as_aux_lemma => kernel_rfl) ?_
      obtain ⟨z, hz⟩ : ∃ z : World, z = { Z with drawn := Z.drawn + 1 } := ⟨_, rfl⟩
      rw [← hz]
      have gz : G Z z := by rw [hz]; exact (G.refl _).drew
      clear hz
      have gz2 := hb1.trans gz
      have p0 := r0.grow gz2
      have p1 := (Q1.out.grow hbr).grow gz2
      have p2 := N0.out.grow gz
      clear r0
      have HS : (z.cell? ⟨w.heap.size, 0, none⟩ = some (.int .i64 l.lo) ∧ z.cell? ⟨w.heap.size, 1, none⟩ = some (.int .i64 l.hi) ∧ z.cell? ⟨w.heap.size, 2, none⟩ = some (.slice A l.gs.length cA) ∧ z.cell? ⟨w.heap.size, 3, none⟩ = some (.slice (some ⟨b, off, none⟩) l.cs.length cC)) ∧ (z.cell? ⟨w.heap.size + 1, 0, none⟩ = some (.int .i64 c.r) ∧ z.cell? ⟨w.heap.size + 1, 1, none⟩ = some (.slice B c.bs.length cB)) ∧ z.cell? ⟨n, 0, none⟩ = some (.int .i64 g) ∧ z.cell? ⟨n, 1, none⟩ = some (.int .i64 x.lo) ∧ z.cell? ⟨n, 2, none⟩ = some (.int .i64 x.hi) :=
        ⟨⟨p0.cell 0 rfl, p0.cell 1 rfl, p0.cell 2 rfl, p0.cell 3 rfl⟩, ⟨p1.cell 0 rfl, p1.cell 1 rfl⟩, p2.cell 0 rfl, p2.cell 1 rfl, p2.cell 2 rfl⟩
      clear p0 p1 p2
      refine wpAny_fork (fun w' => (w'.cell? ⟨w.heap.size, 0, none⟩ = some (.int .i64 l.lo) ∧ w'.cell? ⟨w.heap.size, 1, none⟩ = some (.int .i64 l.hi) ∧ w'.cell? ⟨w.heap.size, 2, none⟩ = some (.slice A l.gs.length cA) ∧ w'.cell? ⟨w.heap.size, 3, none⟩ = some (.slice (some ⟨b, off, none⟩) l.cs.length cC)) ∧ (w'.cell? ⟨w.heap.size + 1, 0, none⟩ = some (.int .i64 c.r) ∧ w'.cell? ⟨w.heap.size + 1, 1, none⟩ = some (.slice B c.bs.length cB)) ∧ w'.cell? ⟨n, 0, none⟩ = some (.int .i64 g) ∧ w'.cell? ⟨n, 1, none⟩ = some (.int .i64 x.lo) ∧ w'.cell? ⟨n, 2, none⟩ = some (.int .i64 x.hi)) 11 ?_
      refine wpAnyU_take (i := 0) (v := ledV l A (some ⟨b, off, none⟩) cA cC) rfl (by as_aux_lemma => kernel_rfl) (fun _ _ _ h => h) HS (Or.inl ⟨by rfl, ?_⟩) ?_
      · rintro w ⟨⟨s0, s1, s2, s3⟩, ⟨s4, s5⟩, s6, s7, s8⟩
        go_simp
      simp only [Act.put, List.setIfInBounds_toArray, List.set_cons_succ, List.set_cons_zero]
      refine wpAnyU_take (i := 1) (v := cnV c B cB) rfl (by as_aux_lemma => kernel_rfl) (fun _ _ _ h => h) HS (Or.inl ⟨by rfl, ?_⟩) ?_
      · rintro w ⟨⟨s0, s1, s2, s3⟩, ⟨s4, s5⟩, s6, s7, s8⟩
        go_simp
      simp only [Act.put, List.setIfInBounds_toArray, List.set_cons_succ, List.set_cons_zero]
      refine wpAnyU_take (i := 2) (v := .pointer (some ⟨n, 0, none⟩)) rfl (by as_aux_lemma => kernel_rfl) (fun _ _ _ h => h) HS (Or.inl ⟨by rfl, ?_⟩) ?_
      · rintro w ⟨⟨s0, s1, s2, s3⟩, ⟨s4, s5⟩, s6, s7, s8⟩
        go_simp
      simp only [Act.put, List.setIfInBounds_toArray, List.set_cons_succ, List.set_cons_zero]
      refine wpAnyU_take (i := 3) (v := .int .i64 g) rfl (by as_aux_lemma => kernel_rfl) (fun _ _ _ h => h) HS (Or.inl ⟨by rfl, ?_⟩) ?_
      · rintro w ⟨⟨s0, s1, s2, s3⟩, ⟨s4, s5⟩, s6, s7, s8⟩
        go_simp
      simp only [Act.put, List.setIfInBounds_toArray, List.set_cons_succ, List.set_cons_zero]
      refine wpAnyU_take (i := 5) (v := .pointer (some ⟨n, 1, none⟩)) rfl (by as_aux_lemma => kernel_rfl) (fun _ _ _ h => h) HS (Or.inl ⟨by rfl, ?_⟩) ?_
      · rintro w ⟨⟨s0, s1, s2, s3⟩, ⟨s4, s5⟩, s6, s7, s8⟩
        go_simp
      simp only [Act.put, List.setIfInBounds_toArray, List.set_cons_succ, List.set_cons_zero]
      refine wpAnyU_take (i := 6) (v := .pointer (some ⟨n, 1, none⟩)) rfl (by as_aux_lemma => kernel_rfl) (fun _ _ _ h => h) HS (Or.inl ⟨by rfl, ?_⟩) ?_
      · rintro w ⟨⟨s0, s1, s2, s3⟩, ⟨s4, s5⟩, s6, s7, s8⟩
        go_simp
      simp only [Act.put, List.setIfInBounds_toArray, List.set_cons_succ, List.set_cons_zero]
      refine wpAnyU_take (i := 7) (v := .int .i64 x.lo) rfl (by as_aux_lemma => kernel_rfl) (fun _ _ _ h => h) HS (Or.inl ⟨by rfl, ?_⟩) ?_
      · rintro w ⟨⟨s0, s1, s2, s3⟩, ⟨s4, s5⟩, s6, s7, s8⟩
        go_simp
      simp only [Act.put, List.setIfInBounds_toArray, List.set_cons_succ, List.set_cons_zero]
      refine wpAnyU_take (i := 8) (v := .pointer (some ⟨n, 1, none⟩)) rfl (by as_aux_lemma => kernel_rfl) (fun _ _ _ h => h) HS (Or.inl ⟨by rfl, ?_⟩) ?_
      · rintro w ⟨⟨s0, s1, s2, s3⟩, ⟨s4, s5⟩, s6, s7, s8⟩
        go_simp
      simp only [Act.put, List.setIfInBounds_toArray, List.set_cons_succ, List.set_cons_zero]
      refine wpAnyU_take (i := 9) (v := .pointer (some ⟨n, 2, none⟩)) rfl (by as_aux_lemma => kernel_rfl) (fun _ _ _ h => h) HS (Or.inl ⟨by rfl, ?_⟩) ?_
      · rintro w ⟨⟨s0, s1, s2, s3⟩, ⟨s4, s5⟩, s6, s7, s8⟩
        go_simp
      simp only [Act.put, List.setIfInBounds_toArray, List.set_cons_succ, List.set_cons_zero]
      refine wpAnyU_take (i := 10) (v := .int .i64 x.hi) rfl (by as_aux_lemma => kernel_rfl) (fun _ _ _ h => h) HS (Or.inl ⟨by rfl, ?_⟩) ?_
      · rintro w ⟨⟨s0, s1, s2, s3⟩, ⟨s4, s5⟩, s6, s7, s8⟩
        go_simp
      simp only [Act.put, List.setIfInBounds_toArray, List.set_cons_succ, List.set_cons_zero]
      refine wpAnyT_one (i := 4) (by as_aux_lemma => kernel_rfl) rfl ?_
      go_wp2_with fail
      refine (HO.out g hgl z (hB0.trans (hbr.trans gz2))).mono ?_
      rintro e w2 ⟨rfl, hb2⟩
      go_wp2_with fail
      refine ⟨⟨⟨hb2.cell HS.1.1, hb2.cell HS.1.2.1, hb2.cell HS.1.2.2.1, hb2.cell HS.1.2.2.2⟩, ⟨hb2.cell HS.2.1.1, hb2.cell HS.2.1.2⟩, hb2.cell HS.2.2.1, hb2.cell HS.2.2.2.1, hb2.cell HS.2.2.2.2⟩, ?_⟩
      refine wpAnyT_close (by as_aux_lemma => kernel_rfl) ?_
      refine wpAny_part (k := 11) (n := 1) (f := 0) rfl rfl (by as_aux_lemma => kernel_rfl) ?_
      simp only [List.drop_succ_cons, List.drop_zero, List.take_succ_cons, List.take_zero]
      have gE := Lib.hid (hbr.trans (gz2.trans hb2))
      clear HS
      have hp : 2 ^ k ≤ 2 ^ 4 := Nat.pow_le_pow_right (by omega) (by omega)
      go_wp2_with fail
      refine (In_c _ _ _ _).mono ?_
      rintro e w3 ⟨rfl, rfl⟩
      cases hin : inB (owed l c g) x.lo x.hi
      · have HIN := Lib.hid hin
        clear hin
        go_wp2_with fail
        refine wpAny_done (by as_aux_lemma => kernel_rfl) ?_
        go_wp2_with fail
        go_roundw
        case rel => exact ⟨k + 1, acc, by omega, by go_num, rfl, by omega, by
          have h := HR.out
          rw [HD.out, rightFrom, hRC.out, HIN.out] at h
          simpa [Hid] using h, gE.out⟩
        case measure => simp [intOf]; omega
      · have HIN := Lib.hid hin
        clear hin
        have hor := or_bits' (by omega) hacc
        have HSH := Lib.hid (pow_wrap ⟨k, by omega⟩)
        have HOR := Lib.hid hor
        clear hor
        go_wp2_with fail
        refine wpAny_done (by as_aux_lemma => kernel_rfl) ?_
        go_wp2_with fail
        go_roundw
        case rel => exact ⟨k + 1, acc + 2 ^ k, by omega, by go_num, by
          have h1 := HSH.out
          have h2 := HOR.out
          rw [h1, h2], by rw [Nat.pow_succ]; omega, by
          have h := HR.out
          rw [HD.out, rightFrom, hRC.out, HIN.out, if_pos rfl] at h
          rw [Hid, ← h]
          omega, gE.out⟩
        case measure => simp [intOf]; omega
    · go_wp2_with fail
      go_ret
      have h := HR.out
      rw [List.drop_eq_nil_of_le (by omega), rightFrom, Nat.add_zero] at h
      exact ⟨ret_i (by rw [h]), hB0.trans hbr⟩

set_option maxHeartbeats 4000000 in
theorem IsCount_c {l : Led} {A C B : Option Addr} {cA cC cB : Nat} {c : Cn} {w : World} (hG : Row3 w A l.gs) (hB : RowI w B c.bs) (hg : l.gs.length ≤ 30) (hx : c.bs.length ≤ 30) :
    Calls Try.prog 82 #[ledV l A C cA cC, cnV c B cB] w fun e w' => e = .returned (.bool (isCnt l c)) ∧ G w w' := by
  have HG := Lib.hid hG
  have HX := Lib.hid hB
  clear hG hB
  cases hr : inB c.r l.lo l.hi
  · have HR := Lib.hid (show isCnt l c = false by simp [isCnt, hr])
    go_enter Try.func82, Try.ntmps82
    go_wp2_with fail
    refine (In_c _ _ _ _).mono ?_
    rw [hr]
    rintro e w1 ⟨rfl, rfl⟩
    go_wp2_with fail
    go_ret
    exact ⟨ret_b HR.out.symm, ((G.refl _).alloc _).alloc _⟩
  · have HR := Lib.hid hr
    by_cases hne : c.bs.length = l.gs.length
    · have hnei : ((c.bs.length : Int) != l.gs.length) = false := by simp; omega
      have HN := Lib.hid hne
      clear hne
      go_enter Try.func82, Try.ntmps82
      go_wp2_with fail
      have q0 : Blk ((w.alloc (.cells #[.int .i64 l.lo, .int .i64 l.hi, .slice A l.gs.length cA, .slice C l.cs.length cC] 27)).alloc (.cells #[.int .i64 c.r, .slice B c.bs.length cB] 49)) w.heap.size 27 #[.int .i64 l.lo, .int .i64 l.hi, .slice A l.gs.length cA, .slice C l.cs.length cC] := (Blk.new _ _ _).grow ((G.refl _).alloc _)
      have q1 : Blk ((w.alloc (.cells #[.int .i64 l.lo, .int .i64 l.hi, .slice A l.gs.length cA, .slice C l.cs.length cC] 27)).alloc (.cells #[.int .i64 c.r, .slice B c.bs.length cB] 49)) (w.heap.size + 1) 49 #[.int .i64 c.r, .slice B c.bs.length cB] := Blk.new' (by simp)
      have hB0 : G w ((w.alloc (.cells #[.int .i64 l.lo, .int .i64 l.hi, .slice A l.gs.length cA, .slice C l.cs.length cC] 27)).alloc (.cells #[.int .i64 c.r, .slice B c.bs.length cB] 49)) := ((G.refl _).alloc _).alloc _
      refine (In_c _ _ _ _).mono ?_
      rw [hr]
      rintro e w1 ⟨rfl, rfl⟩
      clear hr
      generalize (w.alloc _).alloc _ = W at *
      have f1 := q1.cell 1 (v := .slice B c.bs.length cB) rfl
      have f2 := q0.cell 2 (v := .slice A l.gs.length cA) rfl
      go_wp2_with fail
      have Q0 := Lib.hid q0
      have Q1 := Lib.hid q1
      clear q0 q1 f1 f2
      go_loopw [5] (fun v5 wr => ∃ (k : Nat), k ≤ c.bs.length ∧ v5 = .int .i64 k ∧ Hid (okBs (c.bs.drop k) (l.gs.drop k) = okBs c.bs l.gs) ∧ G W wr) (fun v5 _ => c.bs.length - (intOf v5).toNat)
      case atStart => exact ⟨0, by omega, rfl, by simp [Hid], G.refl _⟩
      case round =>
        obtain ⟨k, hk, rfl, HE, hbr⟩ := hrel
        have r1 := (Q1.out.grow hbr).cell 1 (v := .slice B c.bs.length cB) rfl
        have r2 := (Q0.out.grow hbr).cell 2 (v := .slice A l.gs.length cA) rfl
        by_cases hlt : k < c.bs.length
        · have hlt2 : k < l.gs.length := by have := HN.out; omega
          obtain ⟨b, off, rfl, d0, d1, d2⟩ := HG.out.at hlt2
          obtain ⟨b2, off2, rfl, x0⟩ := HX.out.at hlt
          have e1 := (hB0.trans hbr).cell d1
          have e2 := (hB0.trans hbr).cell d2
          have e3 := (hB0.trans hbr).cell x0
          clear d0 d1 d2 x0
          have HD1 := Lib.hid (List.drop_eq_getElem_cons hlt)
          have HD2 := Lib.hid (List.drop_eq_getElem_cons hlt2)
          generalize l.gs[k] = g at *
          generalize c.bs[k] = x at *
          go_wp2_with fail
          have n0 : Blk (wr.alloc (.cells #[.int .i64 g.lo, .int .i64 g.hi] 23)) wr.heap.size 23 #[.int .i64 g.lo, .int .i64 g.hi] := Blk.new _ _ _
          have hb1 : G wr (wr.alloc (.cells #[.int .i64 g.lo, .int .i64 g.hi] 23)) := (G.refl _).alloc _
          generalize hn : wr.heap.size = n at *
          have t1 := hb1.cell r1
          have t3 := hb1.cell e3
          generalize wr.alloc _ = Z at *
          have t4 := n0.cell 0 (v := .int .i64 g.lo) rfl
          have t5 := n0.cell 1 (v := .int .i64 g.hi) rfl
          clear e1 e2 e3 r1 r2 n0
          go_still_tail 9, (by kernel_rfl)
          change wpList _ _ _ _ _ Z.drew
          go_wp2_with fail
          refine (In_c _ _ _ _).mono ?_
          rintro e w3 ⟨rfl, rfl⟩
          cases hin : inB x g.lo g.hi
          · have HI := Lib.hid (show isCnt l c = false by
              have h := HE.out
              rw [HD1.out, HD2.out, okBs, hin, Bool.false_and] at h
              simp [isCnt, ← h])
            clear hin
            go_wp2_with fail
            go_ret
            exact ⟨ret_b HI.out.symm, hB0.trans (hbr.trans hb1.drew)⟩
          · have HIN := Lib.hid hin
            clear hin
            go_wp2_with fail
            go_roundw
            case rel => exact ⟨k + 1, by omega, by go_num, by
              have h := HE.out
              rw [HD1.out, HD2.out, okBs, HIN.out, Bool.true_and] at h
              exact h, hbr.trans hb1.drew⟩
            case measure => simp [intOf]; omega
        · have HI := Lib.hid (show isCnt l c = true by
            have h := HE.out
            rw [List.drop_eq_nil_of_le (by omega), okBs_nil] at h
            simp [isCnt, HR.out, HN.out, ← h])
          go_wp2_with fail
          go_ret
          exact ⟨ret_b HI.out.symm, hB0.trans hbr⟩
    · have hnei : ((c.bs.length : Int) != l.gs.length) = true := by simp; omega
      have HI := Lib.hid (show isCnt l c = false by simp [isCnt, hne])
      clear hne
      go_enter Try.func82, Try.ntmps82
      go_wp2_with fail
      have q0 : Blk ((w.alloc (.cells #[.int .i64 l.lo, .int .i64 l.hi, .slice A l.gs.length cA, .slice C l.cs.length cC] 27)).alloc (.cells #[.int .i64 c.r, .slice B c.bs.length cB] 49)) w.heap.size 27 #[.int .i64 l.lo, .int .i64 l.hi, .slice A l.gs.length cA, .slice C l.cs.length cC] := (Blk.new _ _ _).grow ((G.refl _).alloc _)
      have q1 : Blk ((w.alloc (.cells #[.int .i64 l.lo, .int .i64 l.hi, .slice A l.gs.length cA, .slice C l.cs.length cC] 27)).alloc (.cells #[.int .i64 c.r, .slice B c.bs.length cB] 49)) (w.heap.size + 1) 49 #[.int .i64 c.r, .slice B c.bs.length cB] := Blk.new' (by simp)
      have hB0 : G w ((w.alloc (.cells #[.int .i64 l.lo, .int .i64 l.hi, .slice A l.gs.length cA, .slice C l.cs.length cC] 27)).alloc (.cells #[.int .i64 c.r, .slice B c.bs.length cB] 49)) := ((G.refl _).alloc _).alloc _
      refine (In_c _ _ _ _).mono ?_
      rw [hr]
      rintro e w1 ⟨rfl, rfl⟩
      clear hr
      generalize (w.alloc _).alloc _ = W at *
      have f1 := q1.cell 1 (v := .slice B c.bs.length cB) rfl
      have f2 := q0.cell 2 (v := .slice A l.gs.length cA) rfl
      go_wp2_with fail
      go_ret
      exact ⟨ret_b HI.out.symm, hB0⟩
end Go.Proofs.Ytogdhkecpjndlaa.C

/- The reference's IsTruth; the laws' counted. -/
namespace Go.Proofs.Ytogdhkecpjndlaa.C
open Go.RowKit
set_option maxRecDepth 100000

abbrev cells4 (l : Led) (A C : Option Addr) (cA cC : Nat) : Array Value := #[.int .i64 l.lo, .int .i64 l.hi, .slice A l.gs.length cA, .slice C l.cs.length cC]
abbrev cells2c (c : Cn) (B : Option Addr) (cB : Nat) : Array Value := #[.int .i64 c.r, .slice B c.bs.length cB]
/-- The boxes of a ledger and of a count. -/
def LBox (w : World) (n : Nat) (l : Led) (A C : Option Addr) (cA cC : Nat) : Prop := w.cell? ⟨n, 0, none⟩ = some (.int .i64 l.lo) ∧ w.cell? ⟨n, 1, none⟩ = some (.int .i64 l.hi) ∧ w.cell? ⟨n, 2, none⟩ = some (.slice A l.gs.length cA) ∧ w.cell? ⟨n, 3, none⟩ = some (.slice C l.cs.length cC)
def CBox (w : World) (n : Nat) (c : Cn) (B : Option Addr) (cB : Nat) : Prop := w.cell? ⟨n, 0, none⟩ = some (.int .i64 c.r) ∧ w.cell? ⟨n, 1, none⟩ = some (.slice B c.bs.length cB)
theorem LBox.grow {w w1 : World} {n : Nat} {l : Led} {A C : Option Addr} {cA cC : Nat} (h : LBox w n l A C cA cC) (g : G w w1) : LBox w1 n l A C cA cC := ⟨g.cell h.1, g.cell h.2.1, g.cell h.2.2.1, g.cell h.2.2.2⟩
theorem CBox.grow {w w1 : World} {n : Nat} {c : Cn} {B : Option Addr} {cB : Nat} (h : CBox w n c B cB) (g : G w w1) : CBox w1 n c B cB := ⟨g.cell h.1, g.cell h.2⟩
theorem LBox.of {w : World} {n : Nat} {t : TypeId} {l : Led} {A C : Option Addr} {cA cC : Nat} (h : Blk w n t (cells4 l A C cA cC)) : LBox w n l A C cA cC := ⟨h.cell 0 rfl, h.cell 1 rfl, h.cell 2 rfl, h.cell 3 rfl⟩
theorem CBox.of {w : World} {n : Nat} {t : TypeId} {c : Cn} {B : Option Addr} {cB : Nat} (h : Blk w n t (cells2c c B cB)) : CBox w n c B cB := ⟨h.cell 0 rfl, h.cell 1 rfl⟩
/-- A law's two boxes. -/
theorem two_boxes {w W : World} {l : Led} {A C : Option Addr} {cA cC : Nat} {c : Cn} {B : Option Addr} {cB : Nat} (h : (w.alloc (.cells (cells4 l A C cA cC) 27)).alloc (.cells (cells2c c B cB) 49) = W) :
    G w W ∧ LBox W w.heap.size l A C cA cC ∧ CBox W (w.heap.size + 1) c B cB := by
  subst h
  exact ⟨((G.refl _).alloc _).alloc _, LBox.of ((Blk.new _ _ _).grow ((G.refl _).alloc _)), CBox.of (Blk.new' (by simp))⟩

theorem beq_cast (a b : Nat) : ((a : Int) == (b : Int)) = (a == b) := by
  by_cases h : a = b
  · subst h
    rw [beq_self_eq_true, beq_self_eq_true]
  · have : ¬ (a : Int) = b := by omega
    rw [beq_eq_false_iff_ne.2 h, beq_eq_false_iff_ne.2 this]
def truthB (l : Led) (c : Cn) : Bool := isCnt l c && (rightN l c == 2 ^ l.cs.length - 1)

set_option maxHeartbeats 4000000 in
theorem IsTruth_c {l : Led} {A C B : Option Addr} {cA cC cB : Nat} {c : Cn} {w : World} (hV : Valid l) (hL : LedR w l A C) (hB : RowI w B c.bs) (hx : c.bs.length ≤ 30) :
    Calls Try.prog 60 #[ledV l A C cA cC, cnV c B cB] w fun e w' => e = .returned (.bool (truthB l c)) ∧ G w w' := by
  have HL := Lib.hid hL
  have HX := Lib.hid hB
  have hng := hV.ng
  clear hL hB
  go_enter Try.func60, Try.ntmps60
  go_wp2_with fail
  generalize hW : (w.alloc _).alloc _ = W
  obtain ⟨hB, k1, k2⟩ := two_boxes hW
  clear hW
  refine wp_region_A (by as_aux_lemma => kernel_rfl) ?_
  obtain ⟨z, hz⟩ : ∃ z : World, z = { W with drawn := W.drawn + 1 } := ⟨_, rfl⟩
  rw [← hz]
  have gz : G W z := by rw [hz]; exact (G.refl _).drew
  clear hz
  have HS : LBox z w.heap.size l A C cA cC ∧ CBox z (w.heap.size + 1) c B cB := ⟨k1.grow gz, k2.grow gz⟩
  clear k1 k2
  refine wpAny_fork (fun w' => LBox w' w.heap.size l A C cA cC ∧ CBox w' (w.heap.size + 1) c B cB) 2 ?_
  refine wpAnyU_takes (i := 0) rfl (by as_aux_lemma => kernel_rfl) (fun _ _ _ _ h => h) HS ?_
  apply Exists.intro
  apply And.intro
  · refine Or.inl (And.intro (by rfl) ?_)
    rintro w ⟨⟨s0, s1, s2, s3⟩, s4, s5⟩
    go_simp
    try rfl
  simp only [Act.put, List.setIfInBounds_toArray, List.set_cons_succ, List.set_cons_zero]
  refine wpAnyU_takes (i := 1) rfl (by as_aux_lemma => kernel_rfl) (fun _ _ _ _ h => h) HS ?_
  apply Exists.intro
  apply And.intro
  · refine Or.inl (And.intro (by rfl) ?_)
    rintro w ⟨⟨s0, s1, s2, s3⟩, s4, s5⟩
    go_simp
    try rfl
  simp only [Act.put, List.setIfInBounds_toArray, List.set_cons_succ, List.set_cons_zero]
  refine wpAnyT_close (by as_aux_lemma => kernel_rfl) ?_
  refine wpAny_part (k := 2) (n := 2) (f := 8) rfl rfl (by as_aux_lemma => kernel_rfl) ?_
  simp only [List.drop_succ_cons, List.drop_zero, List.take_succ_cons, List.take_zero]
  go_wp2_with fail
  refine (IsCount_c (HL.out.g.grow (hB.trans gz)) (HX.out.grow (hB.trans gz)) (by omega) hx).mono ?_
  rintro e w1 ⟨rfl, hb1⟩
  replace HS : LBox w1 w.heap.size l A C cA cC ∧ CBox w1 (w.heap.size + 1) c B cB := ⟨HS.1.grow hb1, HS.2.grow hb1⟩
  have g1 := hB.trans (gz.trans hb1)
  cases hi : isCnt l c
  · have HT := Lib.hid (show truthB l c = false by simp [truthB, hi])
    clear hi
    go_wp2_with fail
    refine wpAny_fork (fun w' => LBox w' w.heap.size l A C cA cC ∧ CBox w' (w.heap.size + 1) c B cB) 8 ?_
    refine wpAnyU_take (i := 4) (v := undef) rfl (by as_aux_lemma => kernel_rfl) (fun _ _ _ h => h) HS (Or.inr ⟨by rfl, rfl⟩) ?_
    simp only [Act.put, List.setIfInBounds_toArray, List.set_cons_succ, List.set_cons_zero]
    refine wpAnyU_take (i := 5) (v := undef) rfl (by as_aux_lemma => kernel_rfl) (fun _ _ _ h => h) HS (Or.inr ⟨by rfl, rfl⟩) ?_
    simp only [Act.put, List.setIfInBounds_toArray, List.set_cons_succ, List.set_cons_zero]
    refine wpAnyU_take (i := 7) (v := undef) rfl (by as_aux_lemma => kernel_rfl) (fun _ _ _ h => h) HS (Or.inr ⟨by rfl, rfl⟩) ?_
    simp only [Act.put, List.setIfInBounds_toArray, List.set_cons_succ, List.set_cons_zero]
    refine wpAnyU_take (i := 6) (v := undef) rfl (by as_aux_lemma => kernel_rfl) (fun _ _ _ h => h) HS (Or.inr ⟨by rfl, rfl⟩) ?_
    simp only [Act.put, List.setIfInBounds_toArray, List.set_cons_succ, List.set_cons_zero]
    refine wpAnyT_close (by as_aux_lemma => kernel_rfl) ?_
    refine wpAny_part (k := 8) (n := 4) (f := 0) rfl rfl (by as_aux_lemma => kernel_rfl) ?_
    simp only [List.drop_succ_cons, List.drop_zero, List.take_succ_cons, List.take_zero]
    go_wp2_with fail
    refine wpAny_done (by as_aux_lemma => kernel_rfl) ?_
    go_wp2_with fail
    go_ret
    exact ⟨ret_b HT.out.symm, g1⟩
  · have HK := Lib.hid (cntOk_of hV hi)
    have HI := Lib.hid hi
    clear hi
    go_wp2_with fail
    refine wpAny_fork (fun w' => LBox w' w.heap.size l A C cA cC ∧ CBox w' (w.heap.size + 1) c B cB) 8 ?_
    refine wpAnyU_takes (i := 4) rfl (by as_aux_lemma => kernel_rfl) (fun _ _ _ _ h => h) HS ?_
    apply Exists.intro
    apply And.intro
    · refine Or.inl (And.intro (by rfl) ?_)
      rintro w ⟨⟨s0, s1, s2, s3⟩, s4, s5⟩
      go_simp
      try rfl
    simp only [Act.put, List.setIfInBounds_toArray, List.set_cons_succ, List.set_cons_zero]
    refine wpAnyU_takes (i := 5) rfl (by as_aux_lemma => kernel_rfl) (fun _ _ _ _ h => h) HS ?_
    apply Exists.intro
    apply And.intro
    · refine Or.inl (And.intro (by rfl) ?_)
      rintro w ⟨⟨s0, s1, s2, s3⟩, s4, s5⟩
      go_simp
      try rfl
    simp only [Act.put, List.setIfInBounds_toArray, List.set_cons_succ, List.set_cons_zero]
    refine wpAnyU_takes (i := 7) rfl (by as_aux_lemma => kernel_rfl) (fun _ _ _ _ h => h) HS ?_
    apply Exists.intro
    apply And.intro
    · refine Or.inl (And.intro (by rfl) ?_)
      rintro w ⟨⟨s0, s1, s2, s3⟩, s4, s5⟩
      go_simp
      try rfl
    simp only [Act.put, List.setIfInBounds_toArray, List.set_cons_succ, List.set_cons_zero]
    refine wpAnyT_one (i := 6) (by as_aux_lemma => kernel_rfl) rfl ?_
    go_wp2_with fail
    refine (Right_c hV HK.out (HL.out.grow g1) (HX.out.grow g1)).mono ?_
    rintro e w2 ⟨rfl, hb2⟩
    go_wp2_with fail
    refine ⟨⟨HS.1.grow hb2, HS.2.grow hb2⟩, ?_⟩
    refine wpAnyT_close (by as_aux_lemma => kernel_rfl) ?_
    refine wpAny_part (k := 8) (n := 4) (f := 0) rfl rfl (by as_aux_lemma => kernel_rfl) ?_
    simp only [List.drop_succ_cons, List.drop_zero, List.take_succ_cons, List.take_zero]
    go_wp2_with fail
    refine (FullN_c l.lo l.hi A C l.gs.length l.cs.length cA cC w2 hV.nc).mono ?_
    rintro e w3 ⟨rfl, hb3⟩
    go_wp2_with fail
    refine wpAny_done (by as_aux_lemma => kernel_rfl) ?_
    go_wp2_with fail
    go_ret
    exact ⟨ret_b (by rw [truthB, HI.out, Bool.true_and, beq_cast]), g1.trans (hb2.trans hb3)⟩

def wantErr (l : Led) (c : Cn) (sum : Int) : Int := cErr l c (inB sum 0 9999)
set_option maxHeartbeats 4000000 in
theorem lawCounted_c {l : Led} {A C B : Option Addr} {cA cC cB : Nat} {c : Cn} {sum : Int} {w : World} (hL : LedR w l A C) (hB : RowI w B c.bs) (hg : l.gs.length ≤ 30) (hc : l.cs.length ≤ 30) (hx : c.bs.length ≤ 30) :
    Calls Try.prog 31 #[ledV l A C cA cC, cnV c B cB, .int .i64 sum] w fun e w' => e = .returned (.int .i64 (cErr l c (inB sum 0 9999))) ∧ G w w' := by
  have HL := Lib.hid hL
  have HX := Lib.hid hB
  clear hL hB
  go_enter Try.func31, Try.ntmps31
  go_wp2_with fail
  generalize hW : (w.alloc _).alloc _ = W
  obtain ⟨hB, ⟨k0, k1, k2, k3⟩, k4, k5⟩ := two_boxes hW
  clear hW
  refine (fault_c l A C cA cC W (HL.out.grow hB) hg hc).mono ?_
  rintro e w1 ⟨rfl, hb1⟩
  by_cases hf : fault l = 0
  · have HF := Lib.hid hf
    rw [hf]
    have d0 := hb1.cell k0
    have d1 := hb1.cell k1
    have d2 := hb1.cell k2
    have d3 := hb1.cell k3
    have d4 := hb1.cell k4
    have d5 := hb1.cell k5
    clear k0 k1 k2 k3 k4 k5 hf
    go_wp2_with fail
    refine (IsCount_c (HL.out.g.grow (hB.trans hb1)) (HX.out.grow (hB.trans hb1)) hg hx).mono ?_
    rintro e w2 ⟨rfl, hb2⟩
    cases hi : isCnt l c
    · have HE := Lib.hid (show cErr l c (inB sum 0 9999) = 2 by unfold cErr; rw [if_pos HF.out, hi]; rfl)
      clear hi
      go_wp2_with fail
      go_ret
      exact ⟨ret_i HE.out.symm, hB.trans (hb1.trans hb2)⟩
    · have HI := Lib.hid hi
      clear hi
      go_wp2_with fail
      refine (In_c _ _ _ _).mono ?_
      rintro e w3 ⟨rfl, rfl⟩
      cases hs : inB sum 0 9999
      · have HE := Lib.hid (show cErr l c (inB sum 0 9999) = 2 by unfold cErr; rw [if_pos HF.out, HI.out, hs]; rfl)
        clear hs
        go_wp2_with fail
        go_ret
        exact ⟨ret_i HE.out.symm, hB.trans (hb1.trans hb2)⟩
      · have HE := Lib.hid (show cErr l c (inB sum 0 9999) = 0 by unfold cErr; rw [if_pos HF.out, HI.out, hs]; rfl)
        clear hs
        go_wp2_with fail
        go_ret
        exact ⟨ret_i HE.out.symm, hB.trans (hb1.trans hb2)⟩
  · have HE := Lib.hid (show cErr l c (inB sum 0 9999) = fault l by unfold cErr; rw [if_neg hf])
    have hne : (fault l != 0) = true := by simp [hf]
    clear hf
    go_wp2_with fail
    go_ret
    exact ⟨ret_i HE.out.symm, hB.trans hb1⟩
end Go.Proofs.Ytogdhkecpjndlaa.C

/- The reference: shares by rank. -/
namespace Go.Proofs.Ytogdhkecpjndlaa.C
open Go.RowKit
set_option maxRecDepth 100000

def atL (rs : List Int) (i : Nat) : Int := rs.getD i 0
theorem countP_succ (p : Nat → Bool) (k : Nat) : (List.range (k + 1)).countP p = (List.range k).countP p + if p k = true then 1 else 0 := by
  rw [List.range_succ, List.countP_append]
  simp [List.countP_cons]
theorem countP_bd (p : Nat → Bool) (k : Nat) : (List.range k).countP p ≤ k := by
  have := List.countP_le_length (p := p) (l := List.range k)
  simpa using this

set_option maxHeartbeats 4000000 in
theorem Ahead_c (A : Option Addr) (cA : Nat) (rs : List Int) (g : Nat) (w : World) (hR : RowI w A rs) (hg : g < rs.length) (hl : rs.length ≤ 1000) :
    Calls Try.prog 84 #[.slice A rs.length cA, .int .i64 g] w fun e w' => e = .returned (.int .i64 (ahead (atL rs) rs.length g)) ∧ G w w' := by
  have HR := Lib.hid hR
  obtain ⟨b, off, rfl, dg⟩ := hR.at hg
  have hg1 : (g : Int) < rs.length := by omega
  have HG := Lib.hid (show atL rs g = rs[g] by simp [atL, List.getD, hg])
  clear hR
  go_enter Try.func84, Try.ntmps84
  go_wp2_with fail
  go_loopw [5, 6] (fun v5 v6 wr => ∃ (k acc : Nat), k ≤ rs.length ∧ v6 = .int .i64 k ∧ v5 = .int .i64 acc ∧ acc ≤ k ∧ Hid (acc = (List.range k).countP (aheadB (atL rs) g)) ∧ G w wr) (fun _ v6 _ => rs.length - (intOf v6).toNat)
  case atStart => exact ⟨0, 0, by omega, rfl, rfl, by omega, by simp [Hid], G.refl _⟩
  case round =>
    obtain ⟨k, acc, hk, rfl, rfl, hak, HC, hbr⟩ := hrel
    by_cases hlt : k < rs.length
    · obtain ⟨b2, off2, e2, dk⟩ := HR.out.at hlt
      cases e2
      have hk1 : (k : Int) < rs.length := by omega
      have HK := Lib.hid (show atL rs k = rs[k] by simp [atL, List.getD, hlt])
      have f0 := hbr.cell dg
      have f1 := hbr.cell dk
      have HB := Lib.hid (show aheadB (atL rs) g k = (decide (rs[g] < rs[k]) || (decide (rs[k] = rs[g]) && decide (k < g))) by unfold aheadB; rw [HG.out, HK.out])
      have HCC := Lib.hid (countP_succ (aheadB (atL rs) g) k)
      clear dk HK
      by_cases h1 : rs[g] < rs[k]
      · have HB1 := Lib.hid (show aheadB (atL rs) g k = true by rw [HB.out]; simp [h1])
        generalize rs[g] = y at *
        generalize rs[k] = x at *
        go_wp2_with fail
        go_quiet (fail)
        go_wp2_with fail
        go_roundw
        case rel => exact ⟨k + 1, acc + 1, by omega, by go_num, by go_num, by omega, by rw [Hid, HCC.out, HB1.out, HC.out, if_pos rfl], hbr.drewN _⟩
        case measure => simp [intOf]; omega
      · by_cases h2 : rs[k] = rs[g]
        · have h2b : (rs[k] == rs[g]) = true := by simp [h2]
          by_cases h3 : k < g
          · have h3i : (k : Int) < g := by omega
            have HB1 := Lib.hid (show aheadB (atL rs) g k = true by rw [HB.out]; simp [h2, h3])
            clear h2
            generalize rs[g] = y at *
            generalize rs[k] = x at *
            go_wp2_with fail
            go_quiet (fail)
            go_wp2_with fail
            go_roundw
            case rel => exact ⟨k + 1, acc + 1, by omega, by go_num, by go_num, by omega, by rw [Hid, HCC.out, HB1.out, HC.out, if_pos rfl], hbr.drewN _⟩
            case measure => simp [intOf]; omega
          · have h3i : ¬ (k : Int) < g := by omega
            have HB1 := Lib.hid (show aheadB (atL rs) g k = false by rw [HB.out]; simp [h1, h3])
            clear h2
            generalize rs[g] = y at *
            generalize rs[k] = x at *
            go_wp2_with fail
            go_quiet (fail)
            go_wp2_with fail
            go_roundw
            case rel => exact ⟨k + 1, acc, by omega, by go_num, rfl, by omega, by rw [Hid, HCC.out, HB1.out, HC.out]; rfl, hbr.drewN _⟩
            case measure => simp [intOf]; omega
        · have h2b : (rs[k] == rs[g]) = false := by simp [h2]
          have HB1 := Lib.hid (show aheadB (atL rs) g k = false by rw [HB.out]; simp [h1, h2])
          clear h2
          generalize rs[g] = y at *
          generalize rs[k] = x at *
          go_wp2_with fail
          go_quiet (fail)
          go_wp2_with fail
          go_roundw
          case rel => exact ⟨k + 1, acc, by omega, by go_num, rfl, by omega, by rw [Hid, HCC.out, HB1.out, HC.out]; rfl, hbr.drewN _⟩
          case measure => simp [intOf]; omega
    · obtain rfl : k = rs.length := by omega
      go_wp2_with fail
      go_ret
      exact ⟨ret_i (by rw [HC.out]; rfl), hbr⟩

end Go.Proofs.Ytogdhkecpjndlaa.C

/- The reference's Share walked. -/
namespace Go.Proofs.Ytogdhkecpjndlaa.C
open Go.RowKit
set_option maxRecDepth 100000

/-! ### Share -/
theorem G.of_grown {a b : World} {r : Option Nat} (h : a.grownBy b r) (hr : ∀ k, r = some k → a.heap.size ≤ k) : G a b := (G.refl a).grown h hr
def bonus (ds : List Int) (sum : Int) (i : Nat) : Int := if (ahead (rm ds sum) ds.length i : Int) < leftOf ds sum then 1 else 0
theorem refShare_mix {ds : List Int} {sum : Int} (h : ¬ totalFrom 0 ds ≤ sum) : refShare ds sum = mix (fun i => fl ds sum i + bonus ds sum i) (fl ds sum) ds.length ds.length := by
  rw [mix_full]
  unfold refShare bonus
  rw [if_neg h]
theorem rmL_at (ds : List Int) (sum : Int) : (fun i => atL ((List.range ds.length).map (rm ds sum)) i) = fun i => if i < ds.length then rm ds sum i else 0 := by
  funext i
  unfold atL
  by_cases h : i < ds.length
  · simp [List.getD, h]
  · simp [List.getD, h]
theorem ahead_congr {f g : Nat → Int} {n i : Nat} (hi : i < n) (h : ∀ j, j < n → f j = g j) : ahead f n i = ahead g n i := by
  have aux : ∀ m, m ≤ n → (List.range m).countP (aheadB f i) = (List.range m).countP (aheadB g i) := by
    intro m
    induction m with
    | zero => intro _; rfl
    | succ m ih =>
      intro hm
      rw [countP_succ, countP_succ, ih (by omega)]
      have : aheadB f i m = aheadB g i m := by unfold aheadB; rw [h i hi, h m (by omega)]
      rw [this]
  exact aux n (Nat.le_refl _)
theorem ahead_rm {ds : List Int} {sum : Int} {i : Nat} (hi : i < ds.length) : ahead (atL ((List.range ds.length).map (rm ds sum))) ((List.range ds.length).map (rm ds sum)).length i = ahead (rm ds sum) ds.length i := by
  rw [List.length_map, List.length_range]
  refine ahead_congr hi (fun j hj => ?_)
  have := congrFun (rmL_at ds sum) j
  rw [this, if_pos hj]

set_option maxHeartbeats 8000000 in
theorem ShareAll_c {l : Led} {A C B : Option Addr} {cA cC cB : Nat} {c : Cn} {sum : Int} {w : World} (hV : Valid l) (hK : CntOk l c) (hG : Row3 w A l.gs) (hB : RowI w B c.bs) (hs : totalFrom 0 (dues l c) ≤ sum) :
    Calls Try.prog 33 #[ledV l A C cA cC, cnV c B cB, .int .i64 sum] w fun e w' => (∃ v, e = .returned v ∧ OwnI w.heap.size w' v ((dues l c).map pos)) ∧ G w w' := by
  have HO := Lib.hid (fun (g : Nat) (hg : g < l.gs.length) (w1 : World) (h : G w w1) => Owed_c (C := C) (cA := cA) (cC := cC) (cB := cB) hV hK (hG.grow h) (hB.grow h) hg)
  have HT := Lib.hid (fun (w1 : World) (h : G w w1) => Total_c (C := C) (cA := cA) (cC := cC) (cB := cB) hV hK (hG.grow h) (hB.grow h))
  have hng := hV.ng
  have HBD := Lib.hid (fun g => owed_bd hV hK g)
  clear hG hB
  go_enter Try.func33, Try.ntmps33
  go_wp2_with fail
  generalize hW : (w.alloc _).alloc _ = W
  obtain ⟨hB, k1, k2⟩ := two_boxes hW
  clear hW
  have hS0 := Lib.hid k1
  have hS1 := Lib.hid k2
  refine (HT.out W hB).mono ?_
  rintro e w1 ⟨rfl, hb1⟩
  generalize hT : totalFrom 0 (dues l c) = T at *
  go_wp2_with fail
  have hsz := hb1.size
  go_loopw [8, 9, 10, 11] (fun v8 v9 v10 v11 wr => ∃ (k : Nat) (v : Value), k ≤ l.gs.length ∧ v8 = v ∧ v9 = .slice none 0 0 ∧ v10 = .int .i64 sum ∧ v11 = .int .i64 k ∧ Hid (OwnI w1.heap.size wr v (((dues l c).take k).map pos)) ∧ G w1 wr) (fun _ _ _ v11 _ => l.gs.length - (intOf v11).toNat)
  case atStart => exact ⟨0, _, by omega, rfl, rfl, rfl, rfl, OwnI.nil _ _, G.refl _⟩
  case round =>
    obtain ⟨k, v, hk, rfl, rfl, rfl, rfl, HR, hbr⟩ := hrel
    obtain ⟨⟨s0, s1, s2, s3⟩, s4, s5⟩ := (⟨(hS0.out.grow hb1).grow hbr, (hS1.out.grow hb1).grow hbr⟩ : LBox wr w.heap.size l A C cA cC ∧ CBox wr (w.heap.size + 1) c B cB)
    by_cases hlt : k < l.gs.length
    · have hbd := HBD.out k
      have hcall := HO.out k hlt wr (hB.trans (hb1.trans hbr))
      have hkd : k < (dues l c).length := by simpa [dues] using hlt
      have HD := Lib.hid (show (dues l c).take (k + 1) = (dues l c).take k ++ [owed l c k] by rw [List.take_succ_eq_append_getElem hkd]; simp [dues])
      generalize owed l c k = d at *
      obtain ⟨A1, c1, rfl, -, -⟩ := HR.out.row
      have hlen : (((dues l c).take k).map pos).length = k := by simp [dues]; omega
      rw [hlen] at HR ⊢
      have hp : pos d = max 0 d := by unfold pos; split <;> omega
      have HP := Lib.hid hp
      clear hp
      have hR2 := Lib.hid (fun (w2 : World) (h : G wr w2) => OwnI.grow HR.out h)
      by_cases hd : 0 < d
      all_goals
        go_wp2_with fail
        refine hcall.mono ?_
        rintro e w2 ⟨rfl, hb2⟩
        have g2 := hbr.trans hb2
        have hs2 := g2.size
        have HO2 := Lib.hid (hR2.out w2 hb2)
        clear s0 s1 s2 s3 s4 s5
        go_wp2_with (at_builtin; refine app_i w1.heap.size rfl _ _ rfl _ (((dues l c).take k).map pos) (pos d) rfl w2.heap.size rfl (by (first | (rw [show pos d = d by unfold pos; split <;> omega]; exact newCell _ _ _ _ rfl) | (rw [show pos d = 0 by unfold pos; split <;> omega]; exact newCell _ _ _ _ rfl))) (HO2.out.grow ((G.refl _).alloc _)) (by simp; omega) (by simp; omega) ?_; intro v4 w4 o1 o2 o3)
        have g4 : G w1 w4 := (g2.alloc _).grown o2 (fun q hq => own_base HO2.out q hq)
        have O4 := Lib.hid o1
        clear o1 o2 o3
        go_wp2_with fail
        go_roundw
        case rel => exact ⟨k + 1, _, by omega, rfl, rfl, rfl, by go_num, by rw [Hid, HD.out, List.map_append]; exact O4.out, g4⟩
        case measure => simp [intOf]; omega
    · obtain rfl : k = l.gs.length := by omega
      have h := HR.out
      rw [List.take_of_length_le (by simp [dues])] at h
      have HR1 := Lib.hid h
      clear h
      obtain ⟨A1, c1, rfl, -, -⟩ := HR1.out.row
      rw [show ((dues l c).map pos).length = (dues l c).length by simp] at HR1 ⊢
      go_wp2_with fail
      go_loopw [13] (fun v13 wq => ∃ (j : Nat), v13 = .int .i64 j ∧ j ≤ 1 ∧ wq = wr) (fun v13 _ => 0)
      case atStart => exact ⟨0, rfl, by omega, rfl⟩
      case round =>
        obtain ⟨j, rfl, -, rfl⟩ := hrel
        have hj : ¬ (j : Int) < 0 := by omega
        go_wp2_with fail
        go_ret
        exact ⟨⟨_, rfl, OwnI.lower HR1.out (Nat.le_trans hB.size hb1.size)⟩, hB.trans (hb1.trans hbr)⟩

theorem G.size {a b : World} (h : G a b) : a.heap.size ≤ b.heap.size := Below.size h
theorem mix_keep {f g : Nat → Int} {n k : Nat} (h : f k = g k) : mix f g n (k + 1) = mix f g n k := by
  unfold mix
  apply List.map_congr_left
  intro i _
  by_cases h1 : i < k
  · rw [if_pos h1, if_pos (by omega)]
  · by_cases h2 : i = k
    · subst h2
      rw [if_pos (by omega), if_neg h1, h]
    · rw [if_neg h1, if_neg (by omega)]
theorem app_pair {base : Nat} {W w3 : World} {v u v3 : Value} {xs ys : List Int} (HN : ∀ q, v.ownBlock = some q → u.ownBlock ≠ some q) (HU : OwnI base W u ys) (o1 : OwnI base w3 v3 xs) (o2 : W.grownBy w3 v.ownBlock) (o3 : v3.ownBlock = v.ownBlock ∨ v3.ownBlock = some W.heap.size) :
    OwnI base w3 u ys ∧ ∀ q, v3.ownBlock = some q → u.ownBlock ≠ some q := by
  refine ⟨HU.kept o2 ?_, fun q hq hu => ?_⟩
  · cases hu : u.ownBlock with
    | none => exact .inl rfl
    | some q => exact .inr (fun e => HN q e.symm hu)
  · rcases o3 with h | h
    · exact HN q (h.symm.trans hq) hu
    · have := own_lt HU q hu
      rw [h] at hq
      injection hq with hq
      omega
theorem apart_symm {v u : Value} (HN : ∀ q, v.ownBlock = some q → u.ownBlock ≠ some q) : ∀ q, u.ownBlock = some q → v.ownBlock ≠ some q := fun q h1 h2 => HN q h2 h1

set_option maxHeartbeats 8000000 in
theorem ShareSome_c {l : Led} {A C B : Option Addr} {cA cC cB : Nat} {c : Cn} {sum : Int} {w : World} (hV : Valid l) (hK : CntOk l c) (hG : Row3 w A l.gs) (hB : RowI w B c.bs) (hs : ¬ totalFrom 0 (dues l c) ≤ sum) (hs0 : 0 ≤ sum) (hs1 : sum ≤ 9999) :
    Calls Try.prog 33 #[ledV l A C cA cC, cnV c B cB, .int .i64 sum] w fun e w' => (∃ v, e = .returned v ∧ OwnI w.heap.size w' v (refShare (dues l c) sum)) ∧ G w w' := by
  have HO := Lib.hid (fun (g : Nat) (hg : g < l.gs.length) (w1 : World) (h : G w w1) => Owed_c (C := C) (cA := cA) (cC := cC) (cB := cB) hV hK (hG.grow h) (hB.grow h) hg)
  have HT := Lib.hid (fun (w1 : World) (h : G w w1) => Total_c (C := C) (cA := cA) (cC := cC) (cB := cB) hV hK (hG.grow h) (hB.grow h))
  have hng := hV.ng
  have HBD := Lib.hid (fun g => owed_bd hV hK g)
  have HBDS := Lib.hid (dues_bd hV hK)
  have HRS := Lib.hid (refShare_mix hs)
  have hdl : (dues l c).length = l.gs.length := dues_len l c
  have HDL := Lib.hid hdl
  have HDA := Lib.hid (fun (k : Nat) (h : k < l.gs.length) => (show (dues l c).getD k 0 = owed l c k by simp [dues, List.getD, h]))
  clear hG hB
  go_enter Try.func33, Try.ntmps33
  go_wp2_with fail
  generalize hW : (w.alloc _).alloc _ = W
  obtain ⟨hB, k1, k2⟩ := two_boxes hW
  clear hW
  have hS0 := Lib.hid k1
  have hS1 := Lib.hid k2
  refine (HT.out W hB).mono ?_
  rintro e w1 ⟨rfl, hb1⟩
  generalize hds : dues l c = ds at *
  have hn4 : ds.length ≤ 4 := by omega
  have hTb := totalFrom_bd ds 0 HBDS.out
  have hnT : sum < totalFrom 0 ds := by omega
  have HDS := Lib.hid hds
  clear hs hds
  go_wp2_with fail
  have hsz := hb1.size
  go_loopw [8, 9, 10, 11] (fun v8 v9 v10 v11 wr => ∃ (k : Nat) (v u : Value) (L : Int), k ≤ l.gs.length ∧ v8 = v ∧ v9 = u ∧ v10 = .int .i64 L ∧ v11 = .int .i64 k ∧ L ≤ 10000 ∧ -10000000000 * (k : Int) ≤ L ∧ Hid (L = sum - sumTo (fl ds sum) k) ∧ Hid (OwnI w1.heap.size wr v ((List.range k).map (fl ds sum))) ∧ Hid (OwnI w1.heap.size wr u ((List.range k).map (rm ds sum))) ∧ Hid (∀ q, v.ownBlock = some q → u.ownBlock ≠ some q) ∧ G w1 wr) (fun _ _ _ v11 _ => l.gs.length - (intOf v11).toNat)
  case atStart => exact ⟨0, _, _, sum, by omega, rfl, rfl, rfl, rfl, by omega, by omega, by simp [Hid, sumTo], OwnI.nil _ _, OwnI.nil _ _, by intro q h; simp [Value.ownBlock] at h, G.refl _⟩
  case round =>
    obtain ⟨k, v, u, L, hk, rfl, rfl, rfl, rfl, hL0, hL1, HL, HOv, HRu, HN, hbr⟩ := hrel
    have HSr : Hid (LBox wr w.heap.size l A C cA cC ∧ CBox wr (w.heap.size + 1) c B cB) := ⟨(hS0.out.grow hb1).grow hbr, (hS1.out.grow hb1).grow hbr⟩
    obtain ⟨⟨s0, s1, s2, s3⟩, s4, s5⟩ := HSr.out
    obtain ⟨A1, c1, rfl, -, -⟩ := HOv.out.row
    obtain ⟨A2, c2, rfl, -, -⟩ := HRu.out.row
    have hlen1 : ((List.range k).map (fl ds sum)).length = k := by simp
    have hlen2 : ((List.range k).map (rm ds sum)).length = k := by simp
    rw [hlen1] at HOv HN ⊢
    rw [hlen2] at HRu HN ⊢
    by_cases hlt : k < l.gs.length
    · have hbd := HBD.out k
      have hcall := HO.out k hlt wr (hB.trans (hb1.trans hbr))
      obtain ⟨b0, b1, b2, b3, b4, b5⟩ := fl_bd HBDS.out hs0 (by omega : sum ≤ 10000) (by omega : 0 < totalFrom 0 ds) k
      have HQ := Lib.hid (show fl ds sum k = pos (owed l c k) * sum / totalFrom 0 ds by unfold fl; rw [HDA.out k hlt])
      have HM := Lib.hid (show rm ds sum k = pos (owed l c k) * sum % totalFrom 0 ds by unfold rm; rw [HDA.out k hlt])
      rw [HDA.out k hlt] at b0 b1 b2 b3
      generalize owed l c k = d at *
      have hne : (totalFrom 0 ds == 0) = false := by simp; omega
      by_cases hd : 0 < d
      · have hpd : pos d = d := by unfold pos; split <;> omega
        rw [hpd] at b2 b3 HQ HM
        have HQ2 := HQ
        have HM2 := HM
        have hw1 : IntKind.i64.wrap (d * sum) = d * sum := IntWalk.i64_in _ (by omega)
        have hq1 : IntKind.i64.wrap (d * sum / totalFrom 0 ds) = d * sum / totalFrom 0 ds := IntWalk.i64_in _ (by rw [← HQ.out]; omega)
        have hnz : ¬ totalFrom 0 ds = 0 := by omega
        have htd : (d * sum).tdiv (totalFrom 0 ds) = d * sum / totalFrom 0 ds := Int.tdiv_eq_ediv_of_nonneg b2
        have htm : (d * sum).tmod (totalFrom 0 ds) = d * sum % totalFrom 0 ds := Int.tmod_eq_emod_of_nonneg b2
        have htq : (0 : Int) = 0 := rfl
        have hm1 : IntKind.i64.wrap (d * sum % totalFrom 0 ds) = d * sum % totalFrom 0 ds := IntWalk.i64_in _ (by have := Int.emod_nonneg (d * sum) hnz; have := Int.emod_lt_of_pos (d * sum) (by omega : 0 < totalFrom 0 ds); omega)
        clear hpd
        go_wp2_with fail
        refine hcall.mono ?_
        rintro e w2 ⟨rfl, hb2⟩
        clear s0 s1 s2 s3 s4 s5
        go_wp2_with fail
        refine wp_region_A (by as_aux_lemma => kernel_rfl) ?_
        obtain ⟨z, hz⟩ : ∃ z : World, z = { w2 with drawn := w2.drawn + 1 } := ⟨_, rfl⟩
        rw [← hz]
        have gz : G w2 z := by rw [hz]; exact (G.refl _).drew
        clear hz
        have gz1 := hbr.trans (hb2.trans gz)
        have hzs := gz1.size
        have HOz := Lib.hid (OwnI.grow HOv.out (hb2.trans gz))
        have HRz := Lib.hid (OwnI.grow HRu.out (hb2.trans gz))
        have HNz := HN
        have HS : True := trivial
        refine wpAny_fork (fun _ => True) 15 ?_
        refine wpAnyU_takes (i := 0) rfl (by as_aux_lemma => kernel_rfl) (fun _ _ _ _ h => h) HS ?_
        apply Exists.intro
        apply And.intro
        · refine Or.inl (And.intro (by rfl) ?_)
          rintro w s0
          go_simp
          try rfl
        simp only [Act.put, List.setIfInBounds_toArray, List.set_cons_succ, List.set_cons_zero]
        refine wpAnyU_takes (i := 1) rfl (by as_aux_lemma => kernel_rfl) (fun _ _ _ _ h => h) HS ?_
        apply Exists.intro
        apply And.intro
        · refine Or.inl (And.intro (by rfl) ?_)
          rintro w s0
          go_simp
          try rfl
        simp only [Act.put, List.setIfInBounds_toArray, List.set_cons_succ, List.set_cons_zero]
        refine wpAnyU_takes (i := 2) rfl (by as_aux_lemma => kernel_rfl) (fun _ _ _ _ h => h) HS ?_
        apply Exists.intro
        apply And.intro
        · refine Or.inl (And.intro (by rfl) ?_)
          rintro w s0
          go_simp
          try rfl
        simp only [Act.put, List.setIfInBounds_toArray, List.set_cons_succ, List.set_cons_zero]
        refine wpAnyU_takes (i := 3) rfl (by as_aux_lemma => kernel_rfl) (fun _ _ _ _ h => h) HS ?_
        apply Exists.intro
        apply And.intro
        · refine Or.inl (And.intro (by rfl) ?_)
          rintro w s0
          go_simp
          try rfl
        simp only [Act.put, List.setIfInBounds_toArray, List.set_cons_succ, List.set_cons_zero]
        refine wpAnyU_takes (i := 4) rfl (by as_aux_lemma => kernel_rfl) (fun _ _ _ _ h => h) HS ?_
        apply Exists.intro
        apply And.intro
        · refine Or.inl (And.intro (by rfl) ?_)
          rintro w s0
          go_simp
          try rfl
        simp only [Act.put, List.setIfInBounds_toArray, List.set_cons_succ, List.set_cons_zero]
        refine wpAnyU_takes (i := 5) rfl (by as_aux_lemma => kernel_rfl) (fun _ _ _ _ h => h) HS ?_
        apply Exists.intro
        apply And.intro
        · refine Or.inl (And.intro (by rfl) ?_)
          rintro w s0
          go_simp
          try rfl
        simp only [Act.put, List.setIfInBounds_toArray, List.set_cons_succ, List.set_cons_zero]
        refine wpAnyU_takes (i := 8) rfl (by as_aux_lemma => kernel_rfl) (fun _ _ _ _ h => h) HS ?_
        apply Exists.intro
        apply And.intro
        · refine Or.inl (And.intro (by rfl) ?_)
          rintro w s0
          go_simp
          try rfl
        simp only [Act.put, List.setIfInBounds_toArray, List.set_cons_succ, List.set_cons_zero]
        refine wpAnyU_takes (i := 9) rfl (by as_aux_lemma => kernel_rfl) (fun _ _ _ _ h => h) HS ?_
        apply Exists.intro
        apply And.intro
        · refine Or.inl (And.intro (by rfl) ?_)
          rintro w s0
          go_simp
          try rfl
        simp only [Act.put, List.setIfInBounds_toArray, List.set_cons_succ, List.set_cons_zero]
        refine wpAnyU_takes (i := 10) rfl (by as_aux_lemma => kernel_rfl) (fun _ _ _ _ h => h) HS ?_
        apply Exists.intro
        apply And.intro
        · refine Or.inl (And.intro (by rfl) ?_)
          rintro w s0
          go_simp
          try rfl
        simp only [Act.put, List.setIfInBounds_toArray, List.set_cons_succ, List.set_cons_zero]
        refine wpAnyU_takes (i := 11) rfl (by as_aux_lemma => kernel_rfl) (fun _ _ _ _ h => h) HS ?_
        apply Exists.intro
        apply And.intro
        · refine Or.inl (And.intro (by rfl) ?_)
          rintro w s0
          go_simp
          try rfl
        simp only [Act.put, List.setIfInBounds_toArray, List.set_cons_succ, List.set_cons_zero]
        refine wpAnyU_takes (i := 12) rfl (by as_aux_lemma => kernel_rfl) (fun _ _ _ _ h => h) HS ?_
        apply Exists.intro
        apply And.intro
        · refine Or.inl (And.intro (by rfl) ?_)
          rintro w s0
          go_simp
          try rfl
        simp only [Act.put, List.setIfInBounds_toArray, List.set_cons_succ, List.set_cons_zero]
        refine wpAnyU_takes (i := 13) rfl (by as_aux_lemma => kernel_rfl) (fun _ _ _ _ h => h) HS ?_
        apply Exists.intro
        apply And.intro
        · refine Or.inl (And.intro (by rfl) ?_)
          rintro w s0
          go_simp
          try rfl
        simp only [Act.put, List.setIfInBounds_toArray, List.set_cons_succ, List.set_cons_zero]
        refine wpAnyT_two (i := 6) (j := 14) (by as_aux_lemma => kernel_rfl) rfl rfl ?_ ?_
        · go_wp2_with fail
          refine ⟨trivial, ?_⟩
          (try simp only [htq])
          refine wpAnyT_two (i := 7) (j := 14) (by as_aux_lemma => kernel_rfl) rfl rfl ?_ ?_
          · refine app_i w1.heap.size rfl _ _ rfl _ ((List.range k).map (fl ds sum)) (d * sum / totalFrom 0 ds) rfl (z.heap.size) rfl (newCell _ _ _ _ rfl) (OwnI.grow HOz.out ((G.refl z).alloc (.cells #[.int .i64 (d * sum / totalFrom 0 ds)] 3))) (Nat.le_trans hzs (G.size ((G.refl z).alloc (.cells #[.int .i64 (d * sum / totalFrom 0 ds)] 3)))) (by simp; omega) ?_
            intro v3 w3 o1 o2 o3
            obtain ⟨R3, N3⟩ := app_pair HNz.out (OwnI.grow HRz.out ((G.refl z).alloc (.cells #[.int .i64 (d * sum / totalFrom 0 ds)] 3))) o1 o2 o3
            have G3 := (G.trans gz1 ((G.refl z).alloc (.cells #[.int .i64 (d * sum / totalFrom 0 ds)] 3))).grown o2 (fun q hq => own_base HOz.out q hq)
            have HL3 := Lib.hid o2
            have H3 : Hid (OwnI w1.heap.size w3 v3 ((List.range (k + 1)).map (fl ds sum))) := by rw [Hid, List.range_succ, List.map_append]; simp only [List.map_cons, List.map_nil]; rw [show fl ds sum k = d * sum / totalFrom 0 ds from HQ2.out]; exact o1
            have HR3 := Lib.hid R3
            have HN3 := Lib.hid N3
            clear o1 o2 o3 R3 N3
            refine And.intro trivial ?_
            refine wpAnyT_one (i := 14) (by as_aux_lemma => kernel_rfl) rfl ?_
            go_wp2_with fail
            refine ⟨trivial, ?_⟩
            refine wpAnyT_close (by as_aux_lemma => kernel_rfl) ?_
            refine wpAny_part (k := 15) (n := 3) (f := 0) rfl rfl (by as_aux_lemma => kernel_rfl) ?_
            simp only [List.drop_succ_cons, List.drop_zero, List.take_succ_cons, List.take_zero]
            refine app_i w1.heap.size rfl _ _ rfl _ ((List.range k).map (rm ds sum)) (d * sum % totalFrom 0 ds) rfl (w3.heap.size) rfl (newCell _ _ _ _ rfl) (OwnI.grow HR3.out ((G.refl w3).alloc (.cells #[.int .i64 (d * sum % totalFrom 0 ds)] 3))) (Nat.le_trans G3.size (G.size ((G.refl w3).alloc (.cells #[.int .i64 (d * sum % totalFrom 0 ds)] 3)))) (by simp; omega) ?_
            intro u4 w4 o1 o2 o3
            obtain ⟨V4, N4⟩ := app_pair (apart_symm HN3.out) (OwnI.grow H3.out ((G.refl w3).alloc (.cells #[.int .i64 (d * sum % totalFrom 0 ds)] 3))) o1 o2 o3
            have G4 := Lib.hid ((G.trans G3 ((G.refl w3).alloc (.cells #[.int .i64 (d * sum % totalFrom 0 ds)] 3))).grown o2 (fun q hq => own_base HR3.out q hq))
            have HU4 : Hid (OwnI w1.heap.size w4 u4 ((List.range (k + 1)).map (rm ds sum))) := by rw [Hid, List.range_succ, List.map_append]; simp only [List.map_cons, List.map_nil]; rw [show rm ds sum k = d * sum % totalFrom 0 ds from HM2.out]; exact o1
            have HV4 := Lib.hid V4
            have HN4 := Lib.hid (apart_symm N4)
            clear o1 o2 o3 V4 N4 H3 HR3 HN3 HL3
            obtain ⟨A5, c5, rfl, -, r5⟩ := OwnI.row HV4.out
            obtain ⟨A6, c6, rfl, -, -⟩ := OwnI.row HU4.out
            have hl5 : ((List.range (k + 1)).map (fl ds sum)).length = k + 1 := by simp
            have hl6 : ((List.range (k + 1)).map (rm ds sum)).length = k + 1 := by simp
            rw [hl5] at HV4 HN4 ⊢
            rw [hl6] at HU4 HN4 ⊢
            obtain ⟨b7, off7, rfl, d7⟩ := RowI.at r5 (j := k) (by rw [hl5]; omega)
            rw [show ((List.range (k + 1)).map (fl ds sum))[k]'(by rw [hl5]; omega) = fl ds sum k by simp] at d7
            clear r5
            have HL2 := Lib.hid (show L - fl ds sum k = sum - sumTo (fl ds sum) (k + 1) by rw [HL.out, sumTo]; omega)
            generalize fl ds sum k = q at *
            go_wp2_with fail
            refine wpAny_done (by as_aux_lemma => kernel_rfl) ?_
            go_wp2_with fail
            go_roundw
            case rel => exact ⟨k + 1, _, _, _, by omega, rfl, rfl, rfl, by go_num, by omega, by omega, HL2, HV4.out, HU4.out, HN4.out, G4.out⟩
            case measure => simp [intOf]; omega
          · go_wp2_with fail
            refine ⟨trivial, ?_⟩
            refine wpAnyT_one (i := 7) (by as_aux_lemma => kernel_rfl) rfl ?_
            refine app_i w1.heap.size rfl _ _ rfl _ ((List.range k).map (fl ds sum)) (d * sum / totalFrom 0 ds) rfl (z.heap.size) rfl (((G.refl _).alloc _).cell (newCell _ _ _ _ rfl)) (OwnI.grow HOz.out (((G.refl z).alloc (.cells #[.int .i64 (d * sum / totalFrom 0 ds)] 3)).alloc (.cells #[.int .i64 (d * sum % totalFrom 0 ds)] 3))) (Nat.le_trans hzs (G.size (((G.refl z).alloc (.cells #[.int .i64 (d * sum / totalFrom 0 ds)] 3)).alloc (.cells #[.int .i64 (d * sum % totalFrom 0 ds)] 3)))) (by simp; omega) ?_
            intro v3 w3 o1 o2 o3
            obtain ⟨R3, N3⟩ := app_pair HNz.out (OwnI.grow HRz.out (((G.refl z).alloc (.cells #[.int .i64 (d * sum / totalFrom 0 ds)] 3)).alloc (.cells #[.int .i64 (d * sum % totalFrom 0 ds)] 3))) o1 o2 o3
            have G3 := (G.trans gz1 (((G.refl z).alloc (.cells #[.int .i64 (d * sum / totalFrom 0 ds)] 3)).alloc (.cells #[.int .i64 (d * sum % totalFrom 0 ds)] 3))).grown o2 (fun q hq => own_base HOz.out q hq)
            have HL3 := Lib.hid o2
            have H3 : Hid (OwnI w1.heap.size w3 v3 ((List.range (k + 1)).map (fl ds sum))) := by rw [Hid, List.range_succ, List.map_append]; simp only [List.map_cons, List.map_nil]; rw [show fl ds sum k = d * sum / totalFrom 0 ds from HQ2.out]; exact o1
            have HR3 := Lib.hid R3
            have HN3 := Lib.hid N3
            clear o1 o2 o3 R3 N3
            refine And.intro trivial ?_
            refine wpAnyT_close (by as_aux_lemma => kernel_rfl) ?_
            refine wpAny_part (k := 15) (n := 3) (f := 0) rfl rfl (by as_aux_lemma => kernel_rfl) ?_
            simp only [List.drop_succ_cons, List.drop_zero, List.take_succ_cons, List.take_zero]
            refine app_i w1.heap.size rfl _ _ rfl _ ((List.range k).map (rm ds sum)) (d * sum % totalFrom 0 ds) rfl (z.heap.size + 1) rfl (grown_cell HL3.out (ncell (by simp) rfl) (by intro e; have h := own_lt HOz.out _ e; dsimp only at h; omega)) (OwnI.grow HR3.out (G.refl w3)) (Nat.le_trans G3.size (G.size (G.refl w3))) (by simp; omega) ?_
            intro u4 w4 o1 o2 o3
            obtain ⟨V4, N4⟩ := app_pair (apart_symm HN3.out) (OwnI.grow H3.out (G.refl w3)) o1 o2 o3
            have G4 := Lib.hid ((G.trans G3 (G.refl w3)).grown o2 (fun q hq => own_base HR3.out q hq))
            have HU4 : Hid (OwnI w1.heap.size w4 u4 ((List.range (k + 1)).map (rm ds sum))) := by rw [Hid, List.range_succ, List.map_append]; simp only [List.map_cons, List.map_nil]; rw [show rm ds sum k = d * sum % totalFrom 0 ds from HM2.out]; exact o1
            have HV4 := Lib.hid V4
            have HN4 := Lib.hid (apart_symm N4)
            clear o1 o2 o3 V4 N4 H3 HR3 HN3 HL3
            obtain ⟨A5, c5, rfl, -, r5⟩ := OwnI.row HV4.out
            obtain ⟨A6, c6, rfl, -, -⟩ := OwnI.row HU4.out
            have hl5 : ((List.range (k + 1)).map (fl ds sum)).length = k + 1 := by simp
            have hl6 : ((List.range (k + 1)).map (rm ds sum)).length = k + 1 := by simp
            rw [hl5] at HV4 HN4 ⊢
            rw [hl6] at HU4 HN4 ⊢
            obtain ⟨b7, off7, rfl, d7⟩ := RowI.at r5 (j := k) (by rw [hl5]; omega)
            rw [show ((List.range (k + 1)).map (fl ds sum))[k]'(by rw [hl5]; omega) = fl ds sum k by simp] at d7
            clear r5
            have HL2 := Lib.hid (show L - fl ds sum k = sum - sumTo (fl ds sum) (k + 1) by rw [HL.out, sumTo]; omega)
            generalize fl ds sum k = q at *
            go_wp2_with fail
            refine wpAny_done (by as_aux_lemma => kernel_rfl) ?_
            go_wp2_with fail
            go_roundw
            case rel => exact ⟨k + 1, _, _, _, by omega, rfl, rfl, rfl, by go_num, by omega, by omega, HL2, HV4.out, HU4.out, HN4.out, G4.out⟩
            case measure => simp [intOf]; omega
        · go_wp2_with fail
          refine ⟨trivial, ?_⟩
          refine wpAnyT_one (i := 6) (by as_aux_lemma => kernel_rfl) rfl ?_
          go_wp2_with fail
          refine ⟨trivial, ?_⟩
          refine wpAnyT_one (i := 7) (by as_aux_lemma => kernel_rfl) rfl ?_
          refine app_i w1.heap.size rfl _ _ rfl _ ((List.range k).map (fl ds sum)) (d * sum / totalFrom 0 ds) rfl (z.heap.size + 1) rfl (ncell (by simp) rfl) (OwnI.grow HOz.out (((G.refl z).alloc (.cells #[.int .i64 (d * sum % totalFrom 0 ds)] 3)).alloc (.cells #[.int .i64 (d * sum / totalFrom 0 ds)] 3))) (Nat.le_trans hzs (G.size (((G.refl z).alloc (.cells #[.int .i64 (d * sum % totalFrom 0 ds)] 3)).alloc (.cells #[.int .i64 (d * sum / totalFrom 0 ds)] 3)))) (by simp; omega) ?_
          intro v3 w3 o1 o2 o3
          obtain ⟨R3, N3⟩ := app_pair HNz.out (OwnI.grow HRz.out (((G.refl z).alloc (.cells #[.int .i64 (d * sum % totalFrom 0 ds)] 3)).alloc (.cells #[.int .i64 (d * sum / totalFrom 0 ds)] 3))) o1 o2 o3
          have G3 := (G.trans gz1 (((G.refl z).alloc (.cells #[.int .i64 (d * sum % totalFrom 0 ds)] 3)).alloc (.cells #[.int .i64 (d * sum / totalFrom 0 ds)] 3))).grown o2 (fun q hq => own_base HOz.out q hq)
          have HL3 := Lib.hid o2
          have H3 : Hid (OwnI w1.heap.size w3 v3 ((List.range (k + 1)).map (fl ds sum))) := by rw [Hid, List.range_succ, List.map_append]; simp only [List.map_cons, List.map_nil]; rw [show fl ds sum k = d * sum / totalFrom 0 ds from HQ2.out]; exact o1
          have HR3 := Lib.hid R3
          have HN3 := Lib.hid N3
          clear o1 o2 o3 R3 N3
          refine And.intro trivial ?_
          refine wpAnyT_close (by as_aux_lemma => kernel_rfl) ?_
          refine wpAny_part (k := 15) (n := 3) (f := 0) rfl rfl (by as_aux_lemma => kernel_rfl) ?_
          simp only [List.drop_succ_cons, List.drop_zero, List.take_succ_cons, List.take_zero]
          refine app_i w1.heap.size rfl _ _ rfl _ ((List.range k).map (rm ds sum)) (d * sum % totalFrom 0 ds) rfl (z.heap.size) rfl (grown_cell HL3.out (((G.refl _).alloc _).cell (newCell _ _ _ _ rfl)) (by intro e; have h := own_lt HOz.out _ e; dsimp only at h; omega)) (OwnI.grow HR3.out (G.refl w3)) (Nat.le_trans G3.size (G.size (G.refl w3))) (by simp; omega) ?_
          intro u4 w4 o1 o2 o3
          obtain ⟨V4, N4⟩ := app_pair (apart_symm HN3.out) (OwnI.grow H3.out (G.refl w3)) o1 o2 o3
          have G4 := Lib.hid ((G.trans G3 (G.refl w3)).grown o2 (fun q hq => own_base HR3.out q hq))
          have HU4 : Hid (OwnI w1.heap.size w4 u4 ((List.range (k + 1)).map (rm ds sum))) := by rw [Hid, List.range_succ, List.map_append]; simp only [List.map_cons, List.map_nil]; rw [show rm ds sum k = d * sum % totalFrom 0 ds from HM2.out]; exact o1
          have HV4 := Lib.hid V4
          have HN4 := Lib.hid (apart_symm N4)
          clear o1 o2 o3 V4 N4 H3 HR3 HN3 HL3
          obtain ⟨A5, c5, rfl, -, r5⟩ := OwnI.row HV4.out
          obtain ⟨A6, c6, rfl, -, -⟩ := OwnI.row HU4.out
          have hl5 : ((List.range (k + 1)).map (fl ds sum)).length = k + 1 := by simp
          have hl6 : ((List.range (k + 1)).map (rm ds sum)).length = k + 1 := by simp
          rw [hl5] at HV4 HN4 ⊢
          rw [hl6] at HU4 HN4 ⊢
          obtain ⟨b7, off7, rfl, d7⟩ := RowI.at r5 (j := k) (by rw [hl5]; omega)
          rw [show ((List.range (k + 1)).map (fl ds sum))[k]'(by rw [hl5]; omega) = fl ds sum k by simp] at d7
          clear r5
          have HL2 := Lib.hid (show L - fl ds sum k = sum - sumTo (fl ds sum) (k + 1) by rw [HL.out, sumTo]; omega)
          generalize fl ds sum k = q at *
          go_wp2_with fail
          refine wpAny_done (by as_aux_lemma => kernel_rfl) ?_
          go_wp2_with fail
          go_roundw
          case rel => exact ⟨k + 1, _, _, _, by omega, rfl, rfl, rfl, by go_num, by omega, by omega, HL2, HV4.out, HU4.out, HN4.out, G4.out⟩
          case measure => simp [intOf]; omega
      · have hpd : pos d = 0 := by unfold pos; split <;> omega
        have HQ2 := Lib.hid (show fl ds sum k = 0 by rw [HQ.out, hpd]; simp)
        have HM2 := Lib.hid (show rm ds sum k = 0 by rw [HM.out, hpd]; simp)
        have hnz : ¬ totalFrom 0 ds = 0 := by omega
        have htm : Int.tmod 0 (totalFrom 0 ds) = 0 := by simp
        have htq : (0 : Int) / totalFrom 0 ds = 0 := by simp
        clear hpd
        go_wp2_with fail
        refine hcall.mono ?_
        rintro e w2 ⟨rfl, hb2⟩
        clear s0 s1 s2 s3 s4 s5
        go_wp2_with fail
        refine wp_region_A (by as_aux_lemma => kernel_rfl) ?_
        obtain ⟨z, hz⟩ : ∃ z : World, z = { w2 with drawn := w2.drawn + 1 } := ⟨_, rfl⟩
        rw [← hz]
        have gz : G w2 z := by rw [hz]; exact (G.refl _).drew
        clear hz
        have gz1 := hbr.trans (hb2.trans gz)
        have hzs := gz1.size
        have HOz := Lib.hid (OwnI.grow HOv.out (hb2.trans gz))
        have HRz := Lib.hid (OwnI.grow HRu.out (hb2.trans gz))
        have HNz := HN
        have HS : True := trivial
        refine wpAny_fork (fun _ => True) 15 ?_
        refine wpAnyU_takes (i := 0) rfl (by as_aux_lemma => kernel_rfl) (fun _ _ _ _ h => h) HS ?_
        apply Exists.intro
        apply And.intro
        · refine Or.inl (And.intro (by rfl) ?_)
          rintro w s0
          go_simp
          try rfl
        simp only [Act.put, List.setIfInBounds_toArray, List.set_cons_succ, List.set_cons_zero]
        refine wpAnyU_takes (i := 1) rfl (by as_aux_lemma => kernel_rfl) (fun _ _ _ _ h => h) HS ?_
        apply Exists.intro
        apply And.intro
        · refine Or.inl (And.intro (by rfl) ?_)
          rintro w s0
          go_simp
          try rfl
        simp only [Act.put, List.setIfInBounds_toArray, List.set_cons_succ, List.set_cons_zero]
        refine wpAnyU_takes (i := 2) rfl (by as_aux_lemma => kernel_rfl) (fun _ _ _ _ h => h) HS ?_
        apply Exists.intro
        apply And.intro
        · refine Or.inl (And.intro (by rfl) ?_)
          rintro w s0
          go_simp
          try rfl
        simp only [Act.put, List.setIfInBounds_toArray, List.set_cons_succ, List.set_cons_zero]
        refine wpAnyU_takes (i := 3) rfl (by as_aux_lemma => kernel_rfl) (fun _ _ _ _ h => h) HS ?_
        apply Exists.intro
        apply And.intro
        · refine Or.inl (And.intro (by rfl) ?_)
          rintro w s0
          go_simp
          try rfl
        simp only [Act.put, List.setIfInBounds_toArray, List.set_cons_succ, List.set_cons_zero]
        refine wpAnyU_takes (i := 4) rfl (by as_aux_lemma => kernel_rfl) (fun _ _ _ _ h => h) HS ?_
        apply Exists.intro
        apply And.intro
        · refine Or.inl (And.intro (by rfl) ?_)
          rintro w s0
          go_simp
          try rfl
        simp only [Act.put, List.setIfInBounds_toArray, List.set_cons_succ, List.set_cons_zero]
        refine wpAnyU_takes (i := 5) rfl (by as_aux_lemma => kernel_rfl) (fun _ _ _ _ h => h) HS ?_
        apply Exists.intro
        apply And.intro
        · refine Or.inl (And.intro (by rfl) ?_)
          rintro w s0
          go_simp
          try rfl
        simp only [Act.put, List.setIfInBounds_toArray, List.set_cons_succ, List.set_cons_zero]
        refine wpAnyU_takes (i := 8) rfl (by as_aux_lemma => kernel_rfl) (fun _ _ _ _ h => h) HS ?_
        apply Exists.intro
        apply And.intro
        · refine Or.inl (And.intro (by rfl) ?_)
          rintro w s0
          go_simp
          try rfl
        simp only [Act.put, List.setIfInBounds_toArray, List.set_cons_succ, List.set_cons_zero]
        refine wpAnyU_takes (i := 9) rfl (by as_aux_lemma => kernel_rfl) (fun _ _ _ _ h => h) HS ?_
        apply Exists.intro
        apply And.intro
        · refine Or.inl (And.intro (by rfl) ?_)
          rintro w s0
          go_simp
          try rfl
        simp only [Act.put, List.setIfInBounds_toArray, List.set_cons_succ, List.set_cons_zero]
        refine wpAnyU_takes (i := 10) rfl (by as_aux_lemma => kernel_rfl) (fun _ _ _ _ h => h) HS ?_
        apply Exists.intro
        apply And.intro
        · refine Or.inl (And.intro (by rfl) ?_)
          rintro w s0
          go_simp
          try rfl
        simp only [Act.put, List.setIfInBounds_toArray, List.set_cons_succ, List.set_cons_zero]
        refine wpAnyU_takes (i := 11) rfl (by as_aux_lemma => kernel_rfl) (fun _ _ _ _ h => h) HS ?_
        apply Exists.intro
        apply And.intro
        · refine Or.inl (And.intro (by rfl) ?_)
          rintro w s0
          go_simp
          try rfl
        simp only [Act.put, List.setIfInBounds_toArray, List.set_cons_succ, List.set_cons_zero]
        refine wpAnyU_takes (i := 12) rfl (by as_aux_lemma => kernel_rfl) (fun _ _ _ _ h => h) HS ?_
        apply Exists.intro
        apply And.intro
        · refine Or.inl (And.intro (by rfl) ?_)
          rintro w s0
          go_simp
          try rfl
        simp only [Act.put, List.setIfInBounds_toArray, List.set_cons_succ, List.set_cons_zero]
        refine wpAnyU_takes (i := 13) rfl (by as_aux_lemma => kernel_rfl) (fun _ _ _ _ h => h) HS ?_
        apply Exists.intro
        apply And.intro
        · refine Or.inl (And.intro (by rfl) ?_)
          rintro w s0
          go_simp
          try rfl
        simp only [Act.put, List.setIfInBounds_toArray, List.set_cons_succ, List.set_cons_zero]
        refine wpAnyT_two (i := 6) (j := 14) (by as_aux_lemma => kernel_rfl) rfl rfl ?_ ?_
        · go_wp2_with fail
          refine ⟨trivial, ?_⟩
          (try simp only [htq])
          refine wpAnyT_two (i := 7) (j := 14) (by as_aux_lemma => kernel_rfl) rfl rfl ?_ ?_
          · refine app_i w1.heap.size rfl _ _ rfl _ ((List.range k).map (fl ds sum)) ((0 : Int)) rfl (z.heap.size) rfl (newCell _ _ _ _ rfl) (OwnI.grow HOz.out ((G.refl z).alloc (.cells #[.int .i64 ((0 : Int))] 3))) (Nat.le_trans hzs (G.size ((G.refl z).alloc (.cells #[.int .i64 ((0 : Int))] 3)))) (by simp; omega) ?_
            intro v3 w3 o1 o2 o3
            obtain ⟨R3, N3⟩ := app_pair HNz.out (OwnI.grow HRz.out ((G.refl z).alloc (.cells #[.int .i64 ((0 : Int))] 3))) o1 o2 o3
            have G3 := (G.trans gz1 ((G.refl z).alloc (.cells #[.int .i64 ((0 : Int))] 3))).grown o2 (fun q hq => own_base HOz.out q hq)
            have HL3 := Lib.hid o2
            have H3 : Hid (OwnI w1.heap.size w3 v3 ((List.range (k + 1)).map (fl ds sum))) := by rw [Hid, List.range_succ, List.map_append]; simp only [List.map_cons, List.map_nil]; rw [show fl ds sum k = (0 : Int) from HQ2.out]; exact o1
            have HR3 := Lib.hid R3
            have HN3 := Lib.hid N3
            clear o1 o2 o3 R3 N3
            refine And.intro trivial ?_
            refine wpAnyT_one (i := 14) (by as_aux_lemma => kernel_rfl) rfl ?_
            go_wp2_with fail
            refine ⟨trivial, ?_⟩
            refine wpAnyT_close (by as_aux_lemma => kernel_rfl) ?_
            refine wpAny_part (k := 15) (n := 3) (f := 0) rfl rfl (by as_aux_lemma => kernel_rfl) ?_
            simp only [List.drop_succ_cons, List.drop_zero, List.take_succ_cons, List.take_zero]
            refine app_i w1.heap.size rfl _ _ rfl _ ((List.range k).map (rm ds sum)) ((0 : Int)) rfl (w3.heap.size) rfl (newCell _ _ _ _ rfl) (OwnI.grow HR3.out ((G.refl w3).alloc (.cells #[.int .i64 ((0 : Int))] 3))) (Nat.le_trans G3.size (G.size ((G.refl w3).alloc (.cells #[.int .i64 ((0 : Int))] 3)))) (by simp; omega) ?_
            intro u4 w4 o1 o2 o3
            obtain ⟨V4, N4⟩ := app_pair (apart_symm HN3.out) (OwnI.grow H3.out ((G.refl w3).alloc (.cells #[.int .i64 ((0 : Int))] 3))) o1 o2 o3
            have G4 := Lib.hid ((G.trans G3 ((G.refl w3).alloc (.cells #[.int .i64 ((0 : Int))] 3))).grown o2 (fun q hq => own_base HR3.out q hq))
            have HU4 : Hid (OwnI w1.heap.size w4 u4 ((List.range (k + 1)).map (rm ds sum))) := by rw [Hid, List.range_succ, List.map_append]; simp only [List.map_cons, List.map_nil]; rw [show rm ds sum k = (0 : Int) from HM2.out]; exact o1
            have HV4 := Lib.hid V4
            have HN4 := Lib.hid (apart_symm N4)
            clear o1 o2 o3 V4 N4 H3 HR3 HN3 HL3
            obtain ⟨A5, c5, rfl, -, r5⟩ := OwnI.row HV4.out
            obtain ⟨A6, c6, rfl, -, -⟩ := OwnI.row HU4.out
            have hl5 : ((List.range (k + 1)).map (fl ds sum)).length = k + 1 := by simp
            have hl6 : ((List.range (k + 1)).map (rm ds sum)).length = k + 1 := by simp
            rw [hl5] at HV4 HN4 ⊢
            rw [hl6] at HU4 HN4 ⊢
            obtain ⟨b7, off7, rfl, d7⟩ := RowI.at r5 (j := k) (by rw [hl5]; omega)
            rw [show ((List.range (k + 1)).map (fl ds sum))[k]'(by rw [hl5]; omega) = fl ds sum k by simp] at d7
            clear r5
            have HL2 := Lib.hid (show L - fl ds sum k = sum - sumTo (fl ds sum) (k + 1) by rw [HL.out, sumTo]; omega)
            generalize fl ds sum k = q at *
            go_wp2_with fail
            refine wpAny_done (by as_aux_lemma => kernel_rfl) ?_
            go_wp2_with fail
            go_roundw
            case rel => exact ⟨k + 1, _, _, _, by omega, rfl, rfl, rfl, by go_num, by omega, by omega, HL2, HV4.out, HU4.out, HN4.out, G4.out⟩
            case measure => simp [intOf]; omega
          · go_wp2_with fail
            refine ⟨trivial, ?_⟩
            refine wpAnyT_one (i := 7) (by as_aux_lemma => kernel_rfl) rfl ?_
            refine app_i w1.heap.size rfl _ _ rfl _ ((List.range k).map (fl ds sum)) ((0 : Int)) rfl (z.heap.size) rfl (((G.refl _).alloc _).cell (newCell _ _ _ _ rfl)) (OwnI.grow HOz.out (((G.refl z).alloc (.cells #[.int .i64 ((0 : Int))] 3)).alloc (.cells #[.int .i64 ((0 : Int))] 3))) (Nat.le_trans hzs (G.size (((G.refl z).alloc (.cells #[.int .i64 ((0 : Int))] 3)).alloc (.cells #[.int .i64 ((0 : Int))] 3)))) (by simp; omega) ?_
            intro v3 w3 o1 o2 o3
            obtain ⟨R3, N3⟩ := app_pair HNz.out (OwnI.grow HRz.out (((G.refl z).alloc (.cells #[.int .i64 ((0 : Int))] 3)).alloc (.cells #[.int .i64 ((0 : Int))] 3))) o1 o2 o3
            have G3 := (G.trans gz1 (((G.refl z).alloc (.cells #[.int .i64 ((0 : Int))] 3)).alloc (.cells #[.int .i64 ((0 : Int))] 3))).grown o2 (fun q hq => own_base HOz.out q hq)
            have HL3 := Lib.hid o2
            have H3 : Hid (OwnI w1.heap.size w3 v3 ((List.range (k + 1)).map (fl ds sum))) := by rw [Hid, List.range_succ, List.map_append]; simp only [List.map_cons, List.map_nil]; rw [show fl ds sum k = (0 : Int) from HQ2.out]; exact o1
            have HR3 := Lib.hid R3
            have HN3 := Lib.hid N3
            clear o1 o2 o3 R3 N3
            refine And.intro trivial ?_
            refine wpAnyT_close (by as_aux_lemma => kernel_rfl) ?_
            refine wpAny_part (k := 15) (n := 3) (f := 0) rfl rfl (by as_aux_lemma => kernel_rfl) ?_
            simp only [List.drop_succ_cons, List.drop_zero, List.take_succ_cons, List.take_zero]
            refine app_i w1.heap.size rfl _ _ rfl _ ((List.range k).map (rm ds sum)) ((0 : Int)) rfl (z.heap.size + 1) rfl (grown_cell HL3.out (ncell (by simp) rfl) (by intro e; have h := own_lt HOz.out _ e; dsimp only at h; omega)) (OwnI.grow HR3.out (G.refl w3)) (Nat.le_trans G3.size (G.size (G.refl w3))) (by simp; omega) ?_
            intro u4 w4 o1 o2 o3
            obtain ⟨V4, N4⟩ := app_pair (apart_symm HN3.out) (OwnI.grow H3.out (G.refl w3)) o1 o2 o3
            have G4 := Lib.hid ((G.trans G3 (G.refl w3)).grown o2 (fun q hq => own_base HR3.out q hq))
            have HU4 : Hid (OwnI w1.heap.size w4 u4 ((List.range (k + 1)).map (rm ds sum))) := by rw [Hid, List.range_succ, List.map_append]; simp only [List.map_cons, List.map_nil]; rw [show rm ds sum k = (0 : Int) from HM2.out]; exact o1
            have HV4 := Lib.hid V4
            have HN4 := Lib.hid (apart_symm N4)
            clear o1 o2 o3 V4 N4 H3 HR3 HN3 HL3
            obtain ⟨A5, c5, rfl, -, r5⟩ := OwnI.row HV4.out
            obtain ⟨A6, c6, rfl, -, -⟩ := OwnI.row HU4.out
            have hl5 : ((List.range (k + 1)).map (fl ds sum)).length = k + 1 := by simp
            have hl6 : ((List.range (k + 1)).map (rm ds sum)).length = k + 1 := by simp
            rw [hl5] at HV4 HN4 ⊢
            rw [hl6] at HU4 HN4 ⊢
            obtain ⟨b7, off7, rfl, d7⟩ := RowI.at r5 (j := k) (by rw [hl5]; omega)
            rw [show ((List.range (k + 1)).map (fl ds sum))[k]'(by rw [hl5]; omega) = fl ds sum k by simp] at d7
            clear r5
            have HL2 := Lib.hid (show L - fl ds sum k = sum - sumTo (fl ds sum) (k + 1) by rw [HL.out, sumTo]; omega)
            generalize fl ds sum k = q at *
            go_wp2_with fail
            refine wpAny_done (by as_aux_lemma => kernel_rfl) ?_
            go_wp2_with fail
            go_roundw
            case rel => exact ⟨k + 1, _, _, _, by omega, rfl, rfl, rfl, by go_num, by omega, by omega, HL2, HV4.out, HU4.out, HN4.out, G4.out⟩
            case measure => simp [intOf]; omega
        · go_wp2_with fail
          refine ⟨trivial, ?_⟩
          refine wpAnyT_one (i := 6) (by as_aux_lemma => kernel_rfl) rfl ?_
          go_wp2_with fail
          refine ⟨trivial, ?_⟩
          refine wpAnyT_one (i := 7) (by as_aux_lemma => kernel_rfl) rfl ?_
          refine app_i w1.heap.size rfl _ _ rfl _ ((List.range k).map (fl ds sum)) ((0 : Int)) rfl (z.heap.size + 1) rfl (ncell (by simp) rfl) (OwnI.grow HOz.out (((G.refl z).alloc (.cells #[.int .i64 ((0 : Int))] 3)).alloc (.cells #[.int .i64 ((0 : Int))] 3))) (Nat.le_trans hzs (G.size (((G.refl z).alloc (.cells #[.int .i64 ((0 : Int))] 3)).alloc (.cells #[.int .i64 ((0 : Int))] 3)))) (by simp; omega) ?_
          intro v3 w3 o1 o2 o3
          obtain ⟨R3, N3⟩ := app_pair HNz.out (OwnI.grow HRz.out (((G.refl z).alloc (.cells #[.int .i64 ((0 : Int))] 3)).alloc (.cells #[.int .i64 ((0 : Int))] 3))) o1 o2 o3
          have G3 := (G.trans gz1 (((G.refl z).alloc (.cells #[.int .i64 ((0 : Int))] 3)).alloc (.cells #[.int .i64 ((0 : Int))] 3))).grown o2 (fun q hq => own_base HOz.out q hq)
          have HL3 := Lib.hid o2
          have H3 : Hid (OwnI w1.heap.size w3 v3 ((List.range (k + 1)).map (fl ds sum))) := by rw [Hid, List.range_succ, List.map_append]; simp only [List.map_cons, List.map_nil]; rw [show fl ds sum k = (0 : Int) from HQ2.out]; exact o1
          have HR3 := Lib.hid R3
          have HN3 := Lib.hid N3
          clear o1 o2 o3 R3 N3
          refine And.intro trivial ?_
          refine wpAnyT_close (by as_aux_lemma => kernel_rfl) ?_
          refine wpAny_part (k := 15) (n := 3) (f := 0) rfl rfl (by as_aux_lemma => kernel_rfl) ?_
          simp only [List.drop_succ_cons, List.drop_zero, List.take_succ_cons, List.take_zero]
          refine app_i w1.heap.size rfl _ _ rfl _ ((List.range k).map (rm ds sum)) ((0 : Int)) rfl (z.heap.size) rfl (grown_cell HL3.out (((G.refl _).alloc _).cell (newCell _ _ _ _ rfl)) (by intro e; have h := own_lt HOz.out _ e; dsimp only at h; omega)) (OwnI.grow HR3.out (G.refl w3)) (Nat.le_trans G3.size (G.size (G.refl w3))) (by simp; omega) ?_
          intro u4 w4 o1 o2 o3
          obtain ⟨V4, N4⟩ := app_pair (apart_symm HN3.out) (OwnI.grow H3.out (G.refl w3)) o1 o2 o3
          have G4 := Lib.hid ((G.trans G3 (G.refl w3)).grown o2 (fun q hq => own_base HR3.out q hq))
          have HU4 : Hid (OwnI w1.heap.size w4 u4 ((List.range (k + 1)).map (rm ds sum))) := by rw [Hid, List.range_succ, List.map_append]; simp only [List.map_cons, List.map_nil]; rw [show rm ds sum k = (0 : Int) from HM2.out]; exact o1
          have HV4 := Lib.hid V4
          have HN4 := Lib.hid (apart_symm N4)
          clear o1 o2 o3 V4 N4 H3 HR3 HN3 HL3
          obtain ⟨A5, c5, rfl, -, r5⟩ := OwnI.row HV4.out
          obtain ⟨A6, c6, rfl, -, -⟩ := OwnI.row HU4.out
          have hl5 : ((List.range (k + 1)).map (fl ds sum)).length = k + 1 := by simp
          have hl6 : ((List.range (k + 1)).map (rm ds sum)).length = k + 1 := by simp
          rw [hl5] at HV4 HN4 ⊢
          rw [hl6] at HU4 HN4 ⊢
          obtain ⟨b7, off7, rfl, d7⟩ := RowI.at r5 (j := k) (by rw [hl5]; omega)
          rw [show ((List.range (k + 1)).map (fl ds sum))[k]'(by rw [hl5]; omega) = fl ds sum k by simp] at d7
          clear r5
          have HL2 := Lib.hid (show L - fl ds sum k = sum - sumTo (fl ds sum) (k + 1) by rw [HL.out, sumTo]; omega)
          generalize fl ds sum k = q at *
          go_wp2_with fail
          refine wpAny_done (by as_aux_lemma => kernel_rfl) ?_
          go_wp2_with fail
          go_roundw
          case rel => exact ⟨k + 1, _, _, _, by omega, rfl, rfl, rfl, by go_num, by omega, by omega, HL2, HV4.out, HU4.out, HN4.out, G4.out⟩
          case measure => simp [intOf]; omega
    · obtain rfl : k = l.gs.length := by omega
      have HLL := Lib.hid (show L = leftOf ds sum by unfold leftOf; rw [HDL.out]; exact HL.out)
      have hn4 : l.gs.length ≤ 4 := hng
      have HRR : Hid (RowI wr A2 ((List.range l.gs.length).map (rm ds sum))) := by
        obtain ⟨A9, c9, e9, -, r9⟩ := OwnI.row HRu.out
        simp only [Value.slice.injEq] at e9
        obtain ⟨rfl, -, -⟩ := e9
        exact r9
      have HB2 : Hid (∀ b off, A2 = some ⟨b, off, none⟩ → (Value.slice A1 l.gs.length c1).ownBlock ≠ some b) := fun b off e => by
        subst e
        exact apart_symm HN.out b rfl
      obtain ⟨wo, rfl⟩ : ∃ wo : World, wo = wr := ⟨_, rfl⟩
      go_wp2_with fail
      go_loopw [13] (fun v13 wq => ∃ (j : Nat), j ≤ l.gs.length ∧ v13 = .int .i64 j ∧ Hid (OwnI w1.heap.size wq (.slice A1 l.gs.length c1) (mix (fun i => fl ds sum i + bonus ds sum i) (fl ds sum) l.gs.length j)) ∧ Hid (RowI wq A2 ((List.range l.gs.length).map (rm ds sum))) ∧ G w1 wq) (fun v13 _ => l.gs.length - (intOf v13).toNat)
      case atStart => exact ⟨0, by omega, rfl, by rw [mix_zero]; exact HOv.out, HRR.out, hbr⟩
      case round =>
        obtain ⟨j, hj, rfl, HM, HR9, hbq⟩ := hrel
        by_cases hjl : j < l.gs.length
        · have hji : (j : Int) < l.gs.length := by omega
          have hcall := Ahead_c A2 c2 _ j wr HR9.out (by rw [hlen2]; exact hjl) (by rw [hlen2]; omega)
          rw [hlen2] at hcall
          have har := ahead_rm (ds := ds) (sum := sum) (i := j) (by rw [HDL.out]; exact hjl)
          rw [HDL.out, hlen2] at har
          rw [har] at hcall
          have HBO := Lib.hid (show bonus ds sum j = if (ahead (rm ds sum) l.gs.length j : Int) < L then 1 else 0 by unfold bonus; rw [HDL.out, HLL.out])
          have hal : ahead (rm ds sum) l.gs.length j ≤ l.gs.length := countP_bd _ _
          generalize ahead (rm ds sum) l.gs.length j = aj at *
          clear har
          go_wp2_with fail
          refine hcall.mono ?_
          rintro e w3 ⟨rfl, hb3⟩
          have HM3 := Lib.hid (OwnI.grow HM.out hb3)
          have HR3 := Lib.hid (HR9.out.grow hb3)
          have g3 := hbq.trans hb3
          by_cases haj : (aj : Int) < L
          · have hb1' : bonus ds sum j = 1 := by rw [HBO.out, if_pos haj]
            obtain ⟨gq, hAe, hgb, hcell, hfz, hset⟩ := OwnI.set HM3.out (i := j) (by rw [mix_length]; exact hjl) (fl ds sum j + 1)
            rw [mix_at, if_neg (by omega)] at hcell
            have HSET := Lib.hid hset
            have hfb : fl ds sum j + 1 ≤ 10000000001 ∧ 0 ≤ fl ds sum j := by
              have := fl_bd HBDS.out hs0 (by omega : sum ≤ 10000) (by omega : 0 < totalFrom 0 ds) j
              omega
            have HB1 := Lib.hid hb1'
            have HAE := Lib.hid hAe
            have hne : ∀ b off, A2 = some ⟨b, off, none⟩ → b ≠ gq := fun b off e e2 => by
              have := HB2.out b off e
              rw [HAE.out, e2] at this
              exact this rfl
            have HNE := Lib.hid hne
            subst hAe
            clear hset hb1' hne
            generalize hfq : fl ds sum j = q at *
            have HFQ := Lib.hid hfq
            clear hfq
            go_wp2_with fail
            go_roundw
            case rel => exact ⟨j + 1, by omega, by go_num, by
              have h := HSET.out
              have hm := mix_set (f := fun i => fl ds sum i + bonus ds sum i) (g := fl ds sum) (n := l.gs.length) (k := j) hjl
              simp only [HFQ.out, HB1.out] at hm
              rw [hm] at h
              exact h, fun i x hx => by
                obtain ⟨b, off, e, hc⟩ := HR3.out i x hx
                exact ⟨b, off, e, (World.cell?_setCell_other _ _ _ _ (fun h => HNE.out b off e (congrArg Addr.block h).symm)).trans hc⟩, g3.setCell (by exact hgb) _⟩
            case measure => simp [intOf]; omega
          · have HB1 := Lib.hid (show bonus ds sum j = 0 by rw [HBO.out, if_neg haj])
            go_wp2_with fail
            go_roundw
            case rel => exact ⟨j + 1, by omega, by go_num, by
              rw [Hid, mix_keep (by simp [HB1.out])]
              exact HM3.out, HR3.out, g3⟩
            case measure => simp [intOf]; omega
        · obtain rfl : j = l.gs.length := by omega
          go_wp2_with fail
          go_ret
          refine ⟨⟨_, rfl, ?_⟩, hB.trans (hb1.trans hbq)⟩
          rw [HDS.out, HRS.out, HDL.out]
          exact OwnI.lower HM.out (Nat.le_trans hB.size hb1.size)

theorem Share33_c {l : Led} {A C B : Option Addr} {cA cC cB : Nat} {c : Cn} {sum : Int} {w : World} (hV : Valid l) (hK : CntOk l c) (hG : Row3 w A l.gs) (hB : RowI w B c.bs) (hs0 : 0 ≤ sum) (hs1 : sum ≤ 9999) :
    Calls Try.prog 33 #[ledV l A C cA cC, cnV c B cB, .int .i64 sum] w fun e w' => (∃ v, e = .returned v ∧ OwnI w.heap.size w' v (shareL (dues l c) sum)) ∧ G w w' := by
  by_cases hs : totalFrom 0 (dues l c) ≤ sum
  · rw [show shareL (dues l c) sum = (dues l c).map pos by unfold shareL; rw [if_pos hs]]
    exact ShareAll_c hV hK hG hB hs
  · rw [shareL_ref _ _ hs0]
    exact ShareSome_c hV hK hG hB hs hs0 hs1
end Go.Proofs.Ytogdhkecpjndlaa.C
