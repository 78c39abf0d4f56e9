/- The law GrowerMore, walked. -/
import Derived.Test.YtogdhkecpjndlaaU3
import Derived.Test.YtogdhkecpjndlaaW10
import Derived.Test.YtogdhkecpjndlaaW13
import Derived.Test.YtogdhkecpjndlaaA2
set_option linter.unusedSimpArgs false
set_option linter.unusedVariables false
namespace Go.Proofs.Ytogdhkecpjndlaa.C
open Go.RowKit
set_option maxRecDepth 100000

theorem LBox.far {w : World} {n : Nat} {l : Led} {A C : Option Addr} {cA cC : Nat} (h : LBox w n l A C cA cC) {p : Addr} (hp : n ≠ p.block) (v : Value) : LBox (w.setCell p v) n l A C cA cC := by
  obtain ⟨h0, h1, h2, h3⟩ := h
  refine ⟨?_, ?_, ?_, ?_⟩ <;> rw [World.cell?_setCell_other _ _ _ _ (fun h => hp (congrArg Addr.block h).symm)] <;> assumption
theorem grown_row {a b : World} {n : Nat} (h : a.grownBy b (Value.ownBlock (.slice (some ⟨n, 0, none⟩) 0 0))) : a.grownBy b (some n) := h
theorem own_of_empty {n : Nat} {w : World} {e : TypeId} (h : Blk w n e #[]) : Own3 e n w (.slice (some ⟨n, 0, none⟩) 0 0) [] :=
  ⟨rfl, .inr ⟨n, 0, #[], rfl, Nat.le_refl _, h, Nat.le_refl _, by simp [maxLen], rfl, rfl⟩⟩
theorem wpAnyT_two' {P : Program} {md : Region.Mode} {l : List Oper} {Q : Exit → Act → World → Prop} {S : World → Prop} {m : Nat} {i j : Nat} {oi oj : Oper} {fuel : Nat} {listed : Array Bool} {a : Act} {w : World} (hr : Region.ready md l.toArray listed = [i, j]) (hi : l[i]? = some oi) (hj : l[j]? = some oj)
    (h1 : wpList P l.toArray (Exit.then (fun a' w' => S w' ∧ wpAnyT P md l.toArray Q S m fuel (listed.setIfInBounds i true) a' w') Q) [oi] a w)
    (h2 : wpList P l.toArray (Exit.then (fun a' w' => S w' ∧ wpAnyT P md l.toArray Q S m fuel (listed.setIfInBounds j true) a' w') Q) [oj] a w) : wpAnyT P md l.toArray Q S m (fuel + 1) listed a w :=
  wpAnyT_two hr (by simpa using hi) (by simpa using hj) h1 h2

set_option maxHeartbeats 16000000 in
theorem GrowerMore_c {l : Led} {A C : Option Addr} {cA cC : Nat} {m : T3} {a : Int} {w : World} (hL : LedR w l A C) (hsz : l.cs.length * 24 ≤ 140737488351232) (ha : (Lit.int .u16 a).wf = true) :
    Calls Try.prog 18 #[ledV l A C cA cC, .agg #[.int .i64 m.a, .int .i64 m.lo, .int .i64 m.hi], .int .u16 a] w fun e w' => e = .returned (.bool true) ∧ G w w' := by
  have HL := Lib.hid hL
  have ha2 : 0 ≤ a ∧ a ≤ 65535 := by simpa [Lit.wf, IntKind.min, IntKind.max, IntKind.signed, IntKind.bits] using ha
  clear hL ha
  go_enter Try.func18, Try.ntmps18
  go_upto_region 2 with fail
  have hNX : Blk (((w.alloc (.cells (cells4 l A C cA cC) 27)).alloc (.cells #[.int .i64 m.a, .int .i64 m.lo, .int .i64 m.hi] 97)).alloc (.cells (cells4 l A C cA cC) 27)) (w.heap.size + 1 + 1) 27 (cells4 l A C cA cC) := Blk.new' (by simp)
  obtain ⟨W, hW⟩ : ∃ W : World, ((w.alloc (.cells (cells4 l A C cA cC) 27)).alloc (.cells #[.int .i64 m.a, .int .i64 m.lo, .int .i64 m.hi] 97)).alloc (.cells (cells4 l A C cA cC) 27) = W := ⟨_, rfl⟩
  obtain ⟨hBx, k1, k2, -⟩ := boxes3 hW
  rw [hW] at hNX ⊢
  have HK := Lib.hid (show LBox W w.heap.size l A C cA cC ∧ W.cell? ⟨w.heap.size + 1, 0, none⟩ = some (.int .i64 m.a) ∧ W.cell? ⟨w.heap.size + 1, 1, none⟩ = some (.int .i64 m.lo) ∧ W.cell? ⟨w.heap.size + 1, 2, none⟩ = some (.int .i64 m.hi) from ⟨⟨k1 0 _ rfl, k1 1 _ rfl, k1 2 _ rfl, k1 3 _ rfl⟩, k2 0 _ rfl, k2 1 _ rfl, k2 2 _ rfl⟩)
  have HNX := Lib.hid hNX
  have hxl := hNX.lt
  clear k1 k2 hW hNX
  obtain ⟨bx, hbx⟩ : ∃ bx, w.heap.size + 1 + 1 = bx := ⟨_, rfl⟩
  rw [hbx] at HNX hxl ⊢
  have hbw : w.heap.size < bx := by omega
  clear hbx
  go_cut [7] (fun v7 wc => v7 = .pointer (some ⟨bx, 0, none⟩) ∧ LBox wc w.heap.size l A C cA cC ∧ ∃ A6 c6, LBox wc bx (moreL l m) A A6 cA c6 ∧ Row3 wc A6 (l.cs ++ [m]) ∧ G w wc)
  case first =>
    refine wp_region_A (by as_aux_lemma => kernel_rfl) ?_
    obtain ⟨z, hz⟩ : ∃ z : World, z = { W with drawn := W.drawn + 1 } := ⟨_, rfl⟩
    rw [← hz]
    have gz : G W z := by rw [hz]; exact (G.refl _).drew
    clear hz
    have HSG := Lib.hid (fun (w' : World) (h : G z w') => (show LBox w' w.heap.size l A C cA cC ∧ w'.cell? ⟨w.heap.size + 1, 0, none⟩ = some (.int .i64 m.a) ∧ w'.cell? ⟨w.heap.size + 1, 1, none⟩ = some (.int .i64 m.lo) ∧ w'.cell? ⟨w.heap.size + 1, 2, none⟩ = some (.int .i64 m.hi) from ⟨HK.out.1.grow (gz.trans h), (gz.trans h).cell HK.out.2.1, (gz.trans h).cell HK.out.2.2.1, (gz.trans h).cell HK.out.2.2.2⟩))
    have HS := HSG.out z (G.refl _)
    have hzs := gz.size
    refine wpAny_fork (fun w' => LBox w' w.heap.size l A C cA cC ∧ w'.cell? ⟨w.heap.size + 1, 0, none⟩ = some (.int .i64 m.a) ∧ w'.cell? ⟨w.heap.size + 1, 1, none⟩ = some (.int .i64 m.lo) ∧ w'.cell? ⟨w.heap.size + 1, 2, none⟩ = some (.int .i64 m.hi)) 8 ?_
    refine wpAnyU_takes' (i := 1) rfl (by as_aux_lemma => kernel_rfl) (fun _ _ _ _ h => h) HS ?_
    apply Exists.intro
    apply And.intro
    · refine Or.inl (And.intro (by rfl) ?_)
      rintro w ⟨⟨s0, s1, s2, s3⟩, s4, s5, s6⟩
      go_simp
      try rfl
    simp only [Act.put, List.setIfInBounds_toArray, List.set_cons_succ, List.set_cons_zero]
    refine wpAnyU_takes' (i := 2) rfl (by as_aux_lemma => kernel_rfl) (fun _ _ _ _ h => h) HS ?_
    apply Exists.intro
    apply And.intro
    · refine Or.inl (And.intro (by rfl) ?_)
      rintro w ⟨⟨s0, s1, s2, s3⟩, s4, s5, s6⟩
      go_simp
      try rfl
    simp only [Act.put, List.setIfInBounds_toArray, List.set_cons_succ, List.set_cons_zero]
    refine wpAnyU_takes' (i := 4) rfl (by as_aux_lemma => kernel_rfl) (fun _ _ _ _ h => h) HS ?_
    apply Exists.intro
    apply And.intro
    · refine Or.inl (And.intro (by rfl) ?_)
      rintro w ⟨⟨s0, s1, s2, s3⟩, s4, s5, s6⟩
      go_simp
      try rfl
    simp only [Act.put, List.setIfInBounds_toArray, List.set_cons_succ, List.set_cons_zero]
    refine wpAnyT_two' (i := 0) (j := 5) (by as_aux_lemma => kernel_rfl) rfl rfl ?_ ?_
    · -- the empty list's block e0: from z (grown from z by G.refl z) to w1, grown by g1
      go_wp2_with fail
      have g1 := (G.refl z).alloc (.cells #[] 97)
      have HE := Lib.hid (Blk.new z #[] 97)
      have gm := (G.refl z).alloc (.cells #[] 97)
      generalize hme : z.heap.size = e0 at *
      generalize hmw : z.alloc _ = w1 at *
      have hle0 : z.heap.size ≤ e0 := by have h1 := (G.refl z).size; omega
      have hme1 : z.heap.size ≤ e0 := by omega
      have hme2 : e0 ≤ z.heap.size := by omega
      have hze := gz.size
      clear hme hmw
      refine ⟨HSG.out w1 (g1), ?_⟩
      refine wpAnyT_two' (i := 3) (j := 5) (by as_aux_lemma => kernel_rfl) rfl rfl ?_ ?_
      · -- the list's copy: from w1 (grown by g1) to w2, by g2
        go_wp2_with (at_builtin; refine app_3w 25 97 und25 info97' e0 rfl _ _ rfl _ [] l.cs rfl C l.cs.length cC rfl rfl (HL.out.c.grow (hBx.trans (gz.trans (g1)))) (own_of_empty HE.out) (by have := HE.out.lt; omega) (by simp; omega) ?_; intro v3 w2 o1 o2 o3)
        have g2 := (g1).grown o2 (fun q hq => by have e2 : some e0 = some q := hq; injection e2; omega)
        have HG3 := Lib.hid (grown_row o2)
        obtain ⟨A3, c3, rfl, -, -⟩ := o1.row
        have HO3 : Hid (Own3 97 z.heap.size w2 (.slice A3 l.cs.length c3) l.cs) := own_lower o1 hle0
        clear o1 o2 o3
        simp only [List.nil_append] at *
        go_wp2_with fail
        refine ⟨HSG.out w2 (g2), ?_⟩
        refine wpAnyT_one' (i := 5) (by as_aux_lemma => kernel_rfl) rfl ?_
        go_wp2_with fail
        have g3 := (g2).alloc (.cells #[.int .i64 m.a, .int .i64 m.lo, .int .i64 m.hi] 97)
        have HB5 := Lib.hid (Blk.new w2 #[.int .i64 m.a, .int .i64 m.lo, .int .i64 m.hi] 97)
        have gm := (G.refl w2).alloc (.cells #[.int .i64 m.a, .int .i64 m.lo, .int .i64 m.hi] 97)
        generalize hme : w2.heap.size = b5 at *
        generalize hmw : w2.alloc _ = w3 at *
        have hmb1 : w2.heap.size ≤ b5 := by omega
        have hmb2 : b5 ≤ w2.heap.size := by omega
        have hze := gz.size
        clear hme hmw
        refine ⟨HSG.out w3 (g3), ?_⟩
        replace HO3 : Hid (Own3 97 z.heap.size w3 (.slice A3 l.cs.length c3) l.cs) := own_grow HO3.out gm
        -- world w3 (grown from z by g3): the copy's row HO3, the claim's block b5
        refine wpAnyT_one' (i := 6) (by as_aux_lemma => kernel_rfl) rfl ?_
        go_wp2_with (at_builtin; refine app_3w 25 97 und25 info97' z.heap.size rfl _ _ rfl _ l.cs [m] rfl (some ⟨b5, 0, none⟩) 1 1 rfl rfl (row3_of (xs := [m]) HB5.out) HO3.out ((g3).size) (by simp; omega) ?_; intro v6 w6 o1 o2 o3)
        have hgw := (g3).grown o2 (fun q hq => own_base HO3.out q hq)
        have HO6 := Lib.hid o1
        clear o1 o2 o3
        go_wp2_with fail
        refine ⟨HSG.out w6 hgw, ?_⟩
        refine wpAnyT_one' (i := 7) (by as_aux_lemma => kernel_rfl) rfl ?_
        go_wp2_with fail
        refine ⟨HSG.out w6 hgw, ?_⟩
        refine wpAnyT_close (by as_aux_lemma => kernel_rfl) ?_
        refine wpAny_part (k := 8) (n := 1) (f := 0) rfl rfl (by as_aux_lemma => kernel_rfl) ?_
        simp only [List.drop_succ_cons, List.drop_zero, List.take_succ_cons, List.take_zero]
        obtain ⟨A6, c6, rfl, -, -⟩ := HO6.out.row
        have nb := HNX.out.grow (gz.trans hgw)
        have y2 := nb.cell 3 (v := .slice C l.cs.length cC) rfl
        have z2 := nb.frozen 3
        go_wp2_with fail
        refine wpAny_done (by as_aux_lemma => kernel_rfl) ?_
        go_wp2_with fail
        go_meet
        have n3 := nb.set 3 (.slice A6 (l.cs.length + 1) c6)
        have hO7 := own_block HO6.out (w1 := w6.setCell ⟨bx, 3, none⟩ (.slice A6 (l.cs.length + 1) c6)) (fun q hq => Below.heap_setCell _ _ _ _ (by have := own_base HO6.out q hq; have := gz.size; show q ≠ bx; omega))
        obtain ⟨A7, c7, e7, -, hr7⟩ := Own3.row hO7
        injection e7 with e7 e8 e9
        subst e7
        subst e9
        have n4 : Blk (w6.setCell ⟨bx, 3, none⟩ (.slice A6 (l.cs.length + 1) c6)) bx 27 (cells4 (moreL l m) A A6 cA c6) := by
          have e : (moreL l m).cs.length = l.cs.length + 1 := by simp [moreL, withC]
          unfold cells4
          rw [e]
          exact n3
        exact ⟨rfl, (HSG.out w6 hgw).1.far (by show w.heap.size ≠ bx; omega) _, A6, c6, LBox.of n4, hr7, (hBx.trans (gz.trans hgw)).setCell (p := ⟨bx, 3, none⟩) (by show w.heap.size ≤ bx; omega) _⟩
      · have hE1 := HE.out.lt
        go_wp2_with fail
        have g2 := (g1).alloc (.cells #[.int .i64 m.a, .int .i64 m.lo, .int .i64 m.hi] 97)
        have HB5 := Lib.hid (Blk.new w1 #[.int .i64 m.a, .int .i64 m.lo, .int .i64 m.hi] 97)
        have gm := (G.refl w1).alloc (.cells #[.int .i64 m.a, .int .i64 m.lo, .int .i64 m.hi] 97)
        generalize hme : w1.heap.size = b5 at *
        generalize hmw : w1.alloc _ = w2 at *
        have hmb1 : w1.heap.size ≤ b5 := by omega
        have hmb2 : b5 ≤ w1.heap.size := by omega
        have hze := gz.size
        clear hme hmw
        refine ⟨HSG.out w2 (g2), ?_⟩
        replace HE := Lib.hid (HE.out.grow gm)
        refine wpAnyT_one' (i := 3) (by as_aux_lemma => kernel_rfl) rfl ?_
        -- the list's copy: from w2 (grown by g2) to w3, by g3
        go_wp2_with (at_builtin; refine app_3w 25 97 und25 info97' e0 rfl _ _ rfl _ [] l.cs rfl C l.cs.length cC rfl rfl (HL.out.c.grow (hBx.trans (gz.trans (g2)))) (own_of_empty HE.out) (by have := HE.out.lt; omega) (by simp; omega) ?_; intro v3 w3 o1 o2 o3)
        have g3 := (g2).grown o2 (fun q hq => by have e2 : some e0 = some q := hq; injection e2; omega)
        have HG3 := Lib.hid (grown_row o2)
        obtain ⟨A3, c3, rfl, -, -⟩ := o1.row
        have HO3 : Hid (Own3 97 z.heap.size w3 (.slice A3 l.cs.length c3) l.cs) := own_lower o1 hle0
        clear o1 o2 o3
        simp only [List.nil_append] at *
        go_wp2_with fail
        refine ⟨HSG.out w3 (g3), ?_⟩
        replace HB5 := Lib.hid (HB5.out.grown HG3.out (fun e => by injection e; omega))
        -- world w3 (grown from z by g3): the copy's row HO3, the claim's block b5
        refine wpAnyT_one' (i := 6) (by as_aux_lemma => kernel_rfl) rfl ?_
        go_wp2_with (at_builtin; refine app_3w 25 97 und25 info97' z.heap.size rfl _ _ rfl _ l.cs [m] rfl (some ⟨b5, 0, none⟩) 1 1 rfl rfl (row3_of (xs := [m]) HB5.out) HO3.out ((g3).size) (by simp; omega) ?_; intro v6 w6 o1 o2 o3)
        have hgw := (g3).grown o2 (fun q hq => own_base HO3.out q hq)
        have HO6 := Lib.hid o1
        clear o1 o2 o3
        go_wp2_with fail
        refine ⟨HSG.out w6 hgw, ?_⟩
        refine wpAnyT_one' (i := 7) (by as_aux_lemma => kernel_rfl) rfl ?_
        go_wp2_with fail
        refine ⟨HSG.out w6 hgw, ?_⟩
        refine wpAnyT_close (by as_aux_lemma => kernel_rfl) ?_
        refine wpAny_part (k := 8) (n := 1) (f := 0) rfl rfl (by as_aux_lemma => kernel_rfl) ?_
        simp only [List.drop_succ_cons, List.drop_zero, List.take_succ_cons, List.take_zero]
        obtain ⟨A6, c6, rfl, -, -⟩ := HO6.out.row
        have nb := HNX.out.grow (gz.trans hgw)
        have y2 := nb.cell 3 (v := .slice C l.cs.length cC) rfl
        have z2 := nb.frozen 3
        go_wp2_with fail
        refine wpAny_done (by as_aux_lemma => kernel_rfl) ?_
        go_wp2_with fail
        go_meet
        have n3 := nb.set 3 (.slice A6 (l.cs.length + 1) c6)
        have hO7 := own_block HO6.out (w1 := w6.setCell ⟨bx, 3, none⟩ (.slice A6 (l.cs.length + 1) c6)) (fun q hq => Below.heap_setCell _ _ _ _ (by have := own_base HO6.out q hq; have := gz.size; show q ≠ bx; omega))
        obtain ⟨A7, c7, e7, -, hr7⟩ := Own3.row hO7
        injection e7 with e7 e8 e9
        subst e7
        subst e9
        have n4 : Blk (w6.setCell ⟨bx, 3, none⟩ (.slice A6 (l.cs.length + 1) c6)) bx 27 (cells4 (moreL l m) A A6 cA c6) := by
          have e : (moreL l m).cs.length = l.cs.length + 1 := by simp [moreL, withC]
          unfold cells4
          rw [e]
          exact n3
        exact ⟨rfl, (HSG.out w6 hgw).1.far (by show w.heap.size ≠ bx; omega) _, A6, c6, LBox.of n4, hr7, (hBx.trans (gz.trans hgw)).setCell (p := ⟨bx, 3, none⟩) (by show w.heap.size ≤ bx; omega) _⟩
    · go_wp2_with fail
      have g1 := (G.refl z).alloc (.cells #[.int .i64 m.a, .int .i64 m.lo, .int .i64 m.hi] 97)
      have HB5 := Lib.hid (Blk.new z #[.int .i64 m.a, .int .i64 m.lo, .int .i64 m.hi] 97)
      have gm := (G.refl z).alloc (.cells #[.int .i64 m.a, .int .i64 m.lo, .int .i64 m.hi] 97)
      generalize hme : z.heap.size = b5 at *
      generalize hmw : z.alloc _ = w1 at *
      have hmb1 : z.heap.size ≤ b5 := by omega
      have hmb2 : b5 ≤ z.heap.size := by omega
      have hze := gz.size
      clear hme hmw
      refine ⟨HSG.out w1 (g1), ?_⟩
      have hB1 := HB5.out.lt
      refine wpAnyT_one' (i := 0) (by as_aux_lemma => kernel_rfl) rfl ?_
      -- the empty list's block e0: from w1 (grown from z by g1) to w2, grown by g2
      go_wp2_with fail
      have g2 := (g1).alloc (.cells #[] 97)
      have HE := Lib.hid (Blk.new w1 #[] 97)
      have gm := (G.refl w1).alloc (.cells #[] 97)
      generalize hme : w1.heap.size = e0 at *
      generalize hmw : w1.alloc _ = w2 at *
      have hle0 : z.heap.size ≤ e0 := by have h1 := (g1).size; omega
      have hme1 : w1.heap.size ≤ e0 := by omega
      have hme2 : e0 ≤ w1.heap.size := by omega
      have hze := gz.size
      clear hme hmw
      refine ⟨HSG.out w2 (g2), ?_⟩
      replace HB5 := Lib.hid (HB5.out.grow gm)
      refine wpAnyT_one' (i := 3) (by as_aux_lemma => kernel_rfl) rfl ?_
      -- the list's copy: from w2 (grown by g2) to w3, by g3
      go_wp2_with (at_builtin; refine app_3w 25 97 und25 info97' e0 rfl _ _ rfl _ [] l.cs rfl C l.cs.length cC rfl rfl (HL.out.c.grow (hBx.trans (gz.trans (g2)))) (own_of_empty HE.out) (by have := HE.out.lt; omega) (by simp; omega) ?_; intro v3 w3 o1 o2 o3)
      have g3 := (g2).grown o2 (fun q hq => by have e2 : some e0 = some q := hq; injection e2; omega)
      have HG3 := Lib.hid (grown_row o2)
      obtain ⟨A3, c3, rfl, -, -⟩ := o1.row
      have HO3 : Hid (Own3 97 z.heap.size w3 (.slice A3 l.cs.length c3) l.cs) := own_lower o1 hle0
      clear o1 o2 o3
      simp only [List.nil_append] at *
      go_wp2_with fail
      refine ⟨HSG.out w3 (g3), ?_⟩
      replace HB5 := Lib.hid (HB5.out.grown HG3.out (fun e => by injection e; omega))
      -- world w3 (grown from z by g3): the copy's row HO3, the claim's block b5
      refine wpAnyT_one' (i := 6) (by as_aux_lemma => kernel_rfl) rfl ?_
      go_wp2_with (at_builtin; refine app_3w 25 97 und25 info97' z.heap.size rfl _ _ rfl _ l.cs [m] rfl (some ⟨b5, 0, none⟩) 1 1 rfl rfl (row3_of (xs := [m]) HB5.out) HO3.out ((g3).size) (by simp; omega) ?_; intro v6 w6 o1 o2 o3)
      have hgw := (g3).grown o2 (fun q hq => own_base HO3.out q hq)
      have HO6 := Lib.hid o1
      clear o1 o2 o3
      go_wp2_with fail
      refine ⟨HSG.out w6 hgw, ?_⟩
      refine wpAnyT_one' (i := 7) (by as_aux_lemma => kernel_rfl) rfl ?_
      go_wp2_with fail
      refine ⟨HSG.out w6 hgw, ?_⟩
      refine wpAnyT_close (by as_aux_lemma => kernel_rfl) ?_
      refine wpAny_part (k := 8) (n := 1) (f := 0) rfl rfl (by as_aux_lemma => kernel_rfl) ?_
      simp only [List.drop_succ_cons, List.drop_zero, List.take_succ_cons, List.take_zero]
      obtain ⟨A6, c6, rfl, -, -⟩ := HO6.out.row
      have nb := HNX.out.grow (gz.trans hgw)
      have y2 := nb.cell 3 (v := .slice C l.cs.length cC) rfl
      have z2 := nb.frozen 3
      go_wp2_with fail
      refine wpAny_done (by as_aux_lemma => kernel_rfl) ?_
      go_wp2_with fail
      go_meet
      have n3 := nb.set 3 (.slice A6 (l.cs.length + 1) c6)
      have hO7 := own_block HO6.out (w1 := w6.setCell ⟨bx, 3, none⟩ (.slice A6 (l.cs.length + 1) c6)) (fun q hq => Below.heap_setCell _ _ _ _ (by have := own_base HO6.out q hq; have := gz.size; show q ≠ bx; omega))
      obtain ⟨A7, c7, e7, -, hr7⟩ := Own3.row hO7
      injection e7 with e7 e8 e9
      subst e7
      subst e9
      have n4 : Blk (w6.setCell ⟨bx, 3, none⟩ (.slice A6 (l.cs.length + 1) c6)) bx 27 (cells4 (moreL l m) A A6 cA c6) := by
        have e : (moreL l m).cs.length = l.cs.length + 1 := by simp [moreL, withC]
        unfold cells4
        rw [e]
        exact n3
      exact ⟨rfl, (HSG.out w6 hgw).1.far (by show w.heap.size ≠ bx; omega) _, A6, c6, LBox.of n4, hr7, (hBx.trans (gz.trans hgw)).setCell (p := ⟨bx, 3, none⟩) (by show w.heap.size ≤ bx; omega) _⟩
  case rest =>
    obtain ⟨rfl, hlb, A6, c6, hxb, hxr, hg6⟩ := hcut
    have HXX := Lib.hid (show LedR wc (moreL l m) A A6 from ⟨HL.out.g.grow hg6, hxr⟩)
    have HLEN := Lib.hid (fun (hV : Valid l) (hX : Valid (moreL l m)) => more_len hV hX)
    have HCL := Lib.hid (fun (hV : Valid l) (hX : Valid (moreL l m)) h => more_closer hV hX h)
    generalize moreL l m = x at *
    replace HK := Lib.hid (show LBox wc w.heap.size l A C cA cC ∧ LBox wc bx x A A6 cA c6 from ⟨hlb, hxb⟩)
    clear hlb hxb hxr HNX hxl hbw hsz hBx
    have hw1 : IntKind.i64.wrap a = a := IntWalk.i64_in _ (by omega)
    have htm : a.tmod 10000 = a % 10000 := Int.tmod_eq_emod_of_nonneg ha2.1
    have hq := mod_bd (m := a) (s := 10000) (by omega)
    have hw2 : IntKind.i64.wrap (a % 10000) = a % 10000 := IntWalk.i64_in _ (by omega)
    have HW1 := Lib.hid hw1
    have HTM := Lib.hid htm
    have HW2 := Lib.hid hw2
    clear hw1 htm hw2
    obtain ⟨⟨s0, s1, s2, s3⟩, t0, t1, t2, t3⟩ := HK.out
    go_wp2_with fail
    refine (ready_c (HL.out.grow hg6)).mono ?_
    cases hr : readyB l with
    | false =>
      rintro e w1 ⟨rfl, hb1⟩
      clear hr
      have g1 := hg6.trans hb1
      go_wp2_with fail
      refine (awake_c w1).mono ?_
      rintro e w99 ⟨rfl, hb99⟩
      go_wp2_with fail
      go_ret
      exact ⟨rfl, (g1).trans hb99⟩
    | true =>
      obtain ⟨hg, hc, hf, hV⟩ := readyB_iff hr
      rintro e w1 ⟨rfl, hb1⟩
      clear hr
      -- both boxes and the second ledger kept over hb1; growth hg6 renewed to g1
      replace HK := Lib.hid (show LBox _ _ _ _ _ _ _ ∧ LBox _ _ _ _ _ _ _ from ⟨HK.out.1.grow (hb1), HK.out.2.grow (hb1)⟩)
      replace HXX := Lib.hid (HXX.out.grow (hb1))
      have g1 := (hg6).trans (hb1)
      clear s0 s1 s2 s3 t0 t1 t2 t3
      obtain ⟨⟨s0, s1, s2, s3⟩, t0, t1, t2, t3⟩ := HK.out
      go_wp2_with fail
      refine (ready_c (HXX.out)).mono ?_
      cases hr : readyB x with
      | false =>
        rintro e w2 ⟨rfl, hb2⟩
        clear hr
        have g2 := g1.trans hb2
        go_wp2_with fail
        refine (awake_c w2).mono ?_
        rintro e w99 ⟨rfl, hb99⟩
        go_wp2_with fail
        go_ret
        exact ⟨rfl, (g2).trans hb99⟩
      | true =>
        obtain ⟨hgx, hcx, hfx, hX⟩ := readyB_iff hr
        rintro e w2 ⟨rfl, hb2⟩
        have HV := Lib.hid hV
        have HVX := Lib.hid hX
        have HF := Lib.hid hf
        have HFX := Lib.hid hfx
        clear hr hV hX hf hfx hb1
        -- both boxes and the second ledger kept over hb2; growth g1 renewed to g2
        replace HK := Lib.hid (show LBox _ _ _ _ _ _ _ ∧ LBox _ _ _ _ _ _ _ from ⟨HK.out.1.grow (hb2), HK.out.2.grow (hb2)⟩)
        replace HXX := Lib.hid (HXX.out.grow (hb2))
        have g2 := (g1).trans (hb2)
        clear s0 s1 s2 s3 t0 t1 t2 t3
        obtain ⟨⟨s0, s1, s2, s3⟩, t0, t1, t2, t3⟩ := HK.out
        -- Ledger of l A C cA cC (its LedR HL.out.grow g2 at the world w2), to w3 by hb3; lengths by omega; HX: the new LedR
        go_wp2_with fail
        refine (Ledger_c l A C cA cC w2 (HL.out.grow g2) (by omega) (by omega)).mono ?_
        rintro e w3 ⟨⟨AX, CX, cAX, cCX, rfl, hLX, hcA, hcC⟩, hb3⟩
        have HX := Lib.hid hLX
        clear hLX
        go_wp2_with fail
        refine (Leave_c l AX CX cAX cCX w3 HX.out hg hc (fun h => leaveF_some h)).mono ?_
        rw [HF.out]
        rintro e w4 ⟨⟨v4, rfl, ho4⟩, hb4⟩
        obtain ⟨A4, c4, rfl, -, -⟩ := ho4.row
        have hb34 := hb3.trans hb4
        -- both boxes and the second ledger kept over hb34; growth g2 renewed to g4
        replace HK := Lib.hid (show LBox _ _ _ _ _ _ _ ∧ LBox _ _ _ _ _ _ _ from ⟨HK.out.1.grow (hb34), HK.out.2.grow (hb34)⟩)
        replace HXX := Lib.hid (HXX.out.grow (hb34))
        have g4 := (g2).trans (hb34)
        clear s0 s1 s2 s3 t0 t1 t2 t3
        obtain ⟨⟨s0, s1, s2, s3⟩, t0, t1, t2, t3⟩ := HK.out
        clear HX hcA hcC hb2 hb3 hb4 hb34 ho4 g1
        -- Ledger of x A A6 cA c6 (its LedR HXX.out at the world w4), to w5 by hb5; lengths by omega; HX: the new LedR
        go_wp2_with fail
        refine (Ledger_c x A A6 cA c6 w4 (HXX.out) (by omega) (by omega)).mono ?_
        rintro e w5 ⟨⟨AX, CX, cAX, cCX, rfl, hLX, hcA, hcC⟩, hb5⟩
        have HX := Lib.hid hLX
        clear hLX
        go_wp2_with fail
        refine (Leave_c x AX CX cAX cCX w5 HX.out hgx hcx (fun h => leaveF_some h)).mono ?_
        rw [HFX.out]
        rintro e w6 ⟨⟨v6, rfl, ho6⟩, hb6⟩
        obtain ⟨A7, c7, rfl, -, -⟩ := ho6.row
        have hb56 := hb5.trans hb6
        -- both boxes and the second ledger kept over hb56; growth g4 renewed to g6
        replace HK := Lib.hid (show LBox _ _ _ _ _ _ _ ∧ LBox _ _ _ _ _ _ _ from ⟨HK.out.1.grow (hb56), HK.out.2.grow (hb56)⟩)
        replace HXX := Lib.hid (HXX.out.grow (hb56))
        have g6 := (g4).trans (hb56)
        clear s0 s1 s2 s3 t0 t1 t2 t3
        obtain ⟨⟨s0, s1, s2, s3⟩, t0, t1, t2, t3⟩ := HK.out
        clear HX hcA hcC hb5 hb6 hb56 ho6 g2
        obtain ⟨hl1, hl2⟩ := HLEN.out HV.out HVX.out
        have hl6 := leaveL_len HV.out
        have z1 : ¬ ((leaveL x).length : Int) < (leaveL l).length := by omega
        have z2 : ¬ ((leaveL l).length : Int) + 1 < (leaveL x).length := by omega
        have hw3 : IntKind.i64.wrap (((leaveL l).length : Int) + 1) = ((leaveL l).length : Int) + 1 := IntWalk.i64_in _ (by omega)
        by_cases hp : leaveL x = []
        · have hcl := HCL.out HV.out HVX.out hp
          have hz0 : (leaveL x).length = 0 := by rw [hp]; rfl
          have z3 : ¬ (0 : Int) < ((leaveL x).length : Int) := by omega
          have z4 : ¬ 0 < (leaveL x).length := by omega
          have hcall := closer_c (cA := cA) (cC := c6) (cB := cA) (cD := cC) (w := w6) (sum := a % 10000) hcl (HXX.out) (HL.out.grow g6) (by omega) (by omega)
          have hw1 := HW1.out
          have htm := HTM.out
          have hw2 := HW2.out
          generalize hlx : (leaveL x).length = nx at *
          generalize hll : (leaveL l).length = nl at *
          clear hp hcl hz0 hlx hll hl1 hl2
          go_wp2_with fail
          refine hcall.mono ?_
          rintro e w7 ⟨rfl, hb7⟩
          have g7 := g6.trans hb7
          clear hcall hw1 htm hw2
          go_wp2_with fail
          refine (awake_c w7).mono ?_
          rintro e w99 ⟨rfl, hb99⟩
          go_wp2_with fail
          go_ret
          exact ⟨rfl, (g7).trans hb99⟩
        · have hz0 : 0 < (leaveL x).length := List.length_pos_iff.2 hp
          have z3 : (0 : Int) < ((leaveL x).length : Int) := by omega
          generalize hlx : (leaveL x).length = nx at *
          generalize hll : (leaveL l).length = nl at *
          clear hp hlx hll hl1 hl2
          go_wp2_with fail
          refine (awake_c w6).mono ?_
          rintro e w99 ⟨rfl, hb99⟩
          go_wp2_with fail
          go_ret
          exact ⟨rfl, (g6).trans hb99⟩
end Go.Proofs.Ytogdhkecpjndlaa.C
