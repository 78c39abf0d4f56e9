/- Texts joined: T1 T2 T3 T4 Q4. -/
import Derived.Test.YtogdhkecpjndlaaW3
set_option linter.unusedSimpArgs false
set_option linter.unusedVariables false
/- The reference: all truths, as a slice of counts. -/
namespace Go.Proofs.Ytogdhkecpjndlaa.C
open Go.RowKit
set_option maxRecDepth 100000

/-- A slice of counts, each with its slice of bundles. -/
def RowK (w : World) (A : Option Addr) (cs : List Cn) : Prop :=
  ∀ j c, cs[j]? = some c → ∃ b off B cB, A = some ⟨b, off, none⟩ ∧ w.cell? ⟨b, off + j * 2, none⟩ = some (.int .i64 c.r) ∧ w.cell? ⟨b, off + j * 2 + 1, none⟩ = some (.slice B c.bs.length cB) ∧ RowI w B c.bs
theorem RowK.grow {w w1 : World} {A : Option Addr} {xs : List Cn} (h : RowK w A xs) (hb : G w w1) : RowK w1 A xs := fun j x hj => by
  obtain ⟨b, off, B, cB, e, h0, h1, h2⟩ := h j x hj
  exact ⟨b, off, B, cB, e, hb.cell h0, hb.cell h1, h2.grow hb⟩
theorem RowK.at {w : World} {A : Option Addr} {xs : List Cn} (h : RowK w A xs) {j : Nat} (hj : j < xs.length) : ∃ b off B cB, A = some ⟨b, off, none⟩ ∧ w.cell? ⟨b, off + j * 2, none⟩ = some (.int .i64 xs[j].r) ∧ w.cell? ⟨b, off + j * 2 + 1, none⟩ = some (.slice B xs[j].bs.length cB) ∧ RowI w B xs[j].bs := h j _ (List.getElem?_eq_getElem hj)

/-- A count at hand: with its slice. -/
structure Held where
  c : Cn
  B : Option Addr
  cB : Nat
def cellsH : List Held → List Value
  | [] => []
  | h :: hs => .int .i64 h.c.r :: .slice h.B h.c.bs.length h.cB :: cellsH hs
theorem cellsH_append : ∀ (xs ys : List Held), cellsH (xs ++ ys) = cellsH xs ++ cellsH ys
  | [], ys => rfl
  | x :: xs, ys => by simp [cellsH, cellsH_append xs ys]
theorem cellsH_at : ∀ (xs : List Held) (j : Nat) (h : Held), xs[j]? = some h → (cellsH xs)[j * 2]? = some (.int .i64 h.c.r) ∧ (cellsH xs)[j * 2 + 1]? = some (.slice h.B h.c.bs.length h.cB)
  | [], j, g, h => by simp at h
  | x :: xs, 0, g, h => by simp at h; subst h; simp [cellsH]
  | x :: xs, j + 1, g, h => by
    have := cellsH_at xs j g (by simpa using h)
    rw [show (j + 1) * 2 = j * 2 + 2 by omega]
    exact this
theorem RowI.below {w : World} {A : Option Addr} {xs : List Int} (h : RowI w A xs) (hp : xs ≠ []) (b off : Nat) (e : A = some ⟨b, off, none⟩) : b < w.heap.size := by
  cases xs with
  | nil => exact absurd rfl hp
  | cons x xs =>
    obtain ⟨b', off', e', h0⟩ := h 0 x rfl
    rw [e] at e'
    cases e'
    exact cell_lt h0
def OwnH (base : Nat) (w : World) (v : Value) (hs : List Held) : Prop := w.ownsRow base 49 2 v hs.length (cellsH hs)
theorem OwnH.nil (w : World) (base : Nat) : OwnH base w (.slice none 0 0) [] := World.ownsRow_nil _ _ _ _
def RowsOf (w : World) (v : Value) (hs : List Held) : Prop := ∀ h ∈ hs, RowI w h.B h.c.bs ∧ (h.c.bs ≠ [] → ∀ b off, h.B = some ⟨b, off, none⟩ → v.ownBlock ≠ some b)
theorem OwnH.row {base : Nat} {w : World} {v : Value} {hs : List Held} (h : OwnH base w v hs) (hr : RowsOf w v hs) : ∃ A cap, v = .slice A hs.length cap ∧ RowK w A (hs.map Held.c) := by
  obtain ⟨A, cap, rfl, hc, hrr⟩ := own_form h
  refine ⟨A, cap, rfl, fun j c hj => ?_⟩
  rw [List.getElem?_map, Option.map_eq_some_iff] at hj
  obtain ⟨g, hg, rfl⟩ := hj
  obtain ⟨h0, h1⟩ := cellsH_at hs j g hg
  obtain ⟨b, rfl, k0⟩ := hrr _ _ h0
  obtain ⟨b1, e1, k1⟩ := hrr _ _ h1
  cases e1
  exact ⟨b, 0, g.B, g.cB, rfl, k0, k1, (hr g (List.mem_of_getElem? hg)).1⟩
theorem info49 : (Try.prog.info? 49).map (fun i => (i.zero, i.size, i.bytes)) = some (some (.agg #[(.int .i64 0), (.slice none 0 0)]), 2, 32) := by kernel_rfl
theorem und42 : Try.prog.underlying 42 = some (.slice 49) := by kernel_rfl
section
variable {ops : Array Oper} {rest : List Oper} {o : Oper} {a : Act} {Q : Exit → Act → World → Prop} {W : World}
theorem app_h (base : Nat) (hgd : o.guard = none) (s x : Operand) (ho : o.op = .call { callee := .builtin .append, args := #[s, x], argTypes := #[42, 42] }) (v : Value) (xs : List Held) (y : Held) (hs : a.eval s = v) (b : Nat)
    (hx : a.eval x = .slice (some ⟨b, 0, none⟩) 1 1) (hn0 : W.cell? ⟨b, 0, none⟩ = some (.int .i64 y.c.r)) (hn1 : W.cell? ⟨b, 1, none⟩ = some (.slice y.B y.c.bs.length y.cB)) (HO : OwnH base W v xs) (hbase : base ≤ W.heap.size) (hl : xs.length ≤ 100000000)
    (h : ∀ v1 w1, OwnH base w1 v1 (xs ++ [y]) → W.grownBy w1 v.ownBlock → (v1.ownBlock = v.ownBlock ∨ v1.ownBlock = some W.heap.size) → wpList Try.prog ops Q rest (a.put o.dst v1) w1) :
    wpList Try.prog ops Q (o :: rest) a W :=
  app_cells 42 49 _ 2 32 und42 info49 rfl (by omega) (by omega) base hgd s x ho v xs.length (cellsH xs) (cellsH [y]) hs b hx rfl (by simp [cellsH, Value.oneCell'])
    (fun j u hj => by
      match j, hj with
      | 0, hj => simp [cellsH] at hj; subst hj; exact hn0
      | 1, hj => simp [cellsH] at hj; subst hj; exact hn1
      | j + 2, hj => simp [cellsH] at hj) HO hbase hl
    fun v1 w1 h2 h3 h4 => h v1 w1 (by simpa [OwnH, cellsH_append] using h2) h3 h4
end

def refTruths (l : Led) : List Cn := (refCounts l).filter (okL l)
def firstCounts (l : Led) (k : Nat) : List Cn := ((List.range k).map fun (n : Nat) => nthC l (n : Int)).filter (okL l)
theorem firstCounts_succ (l : Led) (k : Nat) : firstCounts l (k + 1) = firstCounts l k ++ if okL l (nthC l (k : Int)) = true then [nthC l (k : Int)] else [] := by
  unfold firstCounts
  rw [List.range_succ, List.map_append, List.filter_append]
  simp [List.filter_cons]
theorem refTruths_perm {l : Led} (hV : Valid l) : (refTruths l).Perm (truthsL l) := (refCounts_perm hV).filter _

set_option maxHeartbeats 8000000 in
theorem Truths_c {l : Led} {A C : Option Addr} {cA cC : Nat} {w : World} (hV : Valid l) (hL : LedR w l A C) :
    Calls Try.prog 51 #[ledV l A C cA cC] w fun e w' => (∃ T cT, e = .returned (.slice T (refTruths l).length cT) ∧ RowK w' T (refTruths l)) ∧ G w w' := by
  have HL := Lib.hid hL
  have HV := Lib.hid hV
  have hng := hV.ng
  have hnc := hV.nc
  have hr0 := hV.r0
  have hr1 := hV.r1
  have hr2 := hV.r2
  have hmp := manyL_pos hV
  have HVM : Hid (∀ g ∈ l.gs, 0 ≤ g.lo ∧ g.lo ≤ g.hi ∧ g.hi ≤ 1000) := fun g hg => by have := hV.g g hg; omega
  have HM : Hid (many 3000 (l.hi - l.lo + 1) l.gs = manyL l) := rfl
  have HMany := Lib.hid (fun (w1 : World) (h : G w w1) => Many_c l.lo l.hi A (.slice C l.cs.length cC) l.gs cA w1 (by omega) (by omega) (by omega) (HL.out.g.grow h) HVM.out (by omega))
  rw [HM.out] at HMany
  clear hV hL
  go_enter Try.func51, Try.ntmps51
  go_wp2_with fail
  have hB : G w (w.alloc (.cells #[.int .i64 l.lo, .int .i64 l.hi, .slice A l.gs.length cA, .slice C l.cs.length cC] 27)) := (G.refl _).alloc _
  have k := LBox.one (w := w) (l := l) (A := A) (C := C) (cA := cA) (cC := cC)
  have hWw : w.heap.size < (w.alloc (.cells #[.int .i64 l.lo, .int .i64 l.hi, .slice A l.gs.length cA, .slice C l.cs.length cC] 27)).heap.size := by simp
  generalize w.alloc _ = W at *
  go_loopw [3, 4] (fun v3 v4 wr => ∃ (k : Nat) (v : Value) (hs : List Held), (k : Int) ≤ manyL l ∧ v4 = .int .i64 k ∧ v3 = v ∧ hs.length ≤ k ∧ Hid (OwnH W.heap.size wr v hs) ∧ Hid (RowsOf wr v hs) ∧ Hid (hs.map Held.c = firstCounts l k) ∧ G W wr) (fun _ v4 _ => (manyL l - intOf v4).toNat)
  case atStart => exact ⟨0, _, [], by omega, rfl, rfl, by simp, OwnH.nil _ _, fun h hh => by simp at hh, by simp [Hid, firstCounts], G.refl _⟩
  case round =>
    obtain ⟨k2, v, hs, hk, rfl, rfl, hhs, HO, HR, HF, hbr⟩ := hrel
    have HS0 := k.grow hbr
    obtain ⟨A1, c1, rfl, -⟩ := HO.out.row HR.out
    obtain ⟨s0, s1, s2, s3⟩ := HS0
    go_wp2_with fail
    refine (HMany.out wr (hB.trans hbr)).mono ?_
    rintro e w1 ⟨rfl, hb1⟩
    have hbr1 := hbr.trans hb1
    have HS1 := k.grow hbr1
    obtain ⟨t0, t1, t2, t3⟩ := HS1
    clear s0 s1 s2 s3
    by_cases hlt : (k2 : Int) < manyL l
    · go_wp2_with fail
      refine (Nth_c HV.out (HL.out.g.grow (hB.trans hbr1)) (by omega) (by omega)).mono ?_
      rintro e w2 ⟨⟨B, cB, rfl, hrow, hnew⟩, hb2⟩
      have hC := nthC_mem HV.out hlt
      have HFS := Lib.hid (firstCounts_succ l k2)
      have hsz1 := hbr1.size
      generalize nthC l (k2 : Int) = c at *
      have HK := Lib.hid (cntOk_of HV.out hC)
      clear t0 t1 t2 t3
      go_wp2_with fail
      have hb3 := hb2.alloc (.cells (cells2c c B cB) 49)
      have n5 : CBox (w2.alloc (.cells (cells2c c B cB) 49)) w2.heap.size c B cB := CBox.of (Blk.new _ _ _)
      have hrow3 := hrow.grow ((G.refl w2).alloc (.cells (cells2c c B cB) 49))
      have hs3 : w2.heap.size < (w2.alloc (.cells (cells2c c B cB) 49)).heap.size := by simp
      have HROW := Lib.hid hrow3
      have HNEW := Lib.hid hnew
      have hs2 := hb2.size
      clear hrow hrow3 hnew hC
      generalize hn5 : w2.heap.size = m5 at *
      generalize w2.alloc _ = Z at *
      have hbZ := hbr1.trans hb3
      refine wp_region_A (by as_aux_lemma => kernel_rfl) ?_
      obtain ⟨z, hz⟩ : ∃ z : World, z = { Z with drawn := Z.drawn + 1 } := ⟨_, rfl⟩
      rw [← hz]
      have gz : G Z z := by rw [hz]; exact (G.refl _).drew
      clear hz
      have HS : SN w.heap.size m5 l A C cA cC c B cB z := ⟨k.grow (hbZ.trans gz), n5.grow gz⟩
      refine wpAny_fork (SN w.heap.size m5 l A C cA cC c B cB) 4 ?_
      refine wpAnyU_takes (i := 0) rfl (by as_aux_lemma => kernel_rfl) (fun _ _ _ _ h => h) HS ?_
      apply Exists.intro
      apply And.intro
      · refine Or.inl (And.intro (by rfl) ?_)
        rintro w ⟨⟨s0, s1, s2, s3⟩, s4, s5⟩
        go_simp
        try rfl
      simp only [Act.put, List.setIfInBounds_toArray, List.set_cons_succ, List.set_cons_zero]
      refine wpAnyU_takes (i := 1) rfl (by as_aux_lemma => kernel_rfl) (fun _ _ _ _ h => h) HS ?_
      apply Exists.intro
      apply And.intro
      · refine Or.inl (And.intro (by rfl) ?_)
        rintro w ⟨⟨s0, s1, s2, s3⟩, s4, s5⟩
        go_simp
        try rfl
      simp only [Act.put, List.setIfInBounds_toArray, List.set_cons_succ, List.set_cons_zero]
      refine wpAnyU_takes (i := 3) rfl (by as_aux_lemma => kernel_rfl) (fun _ _ _ _ h => h) HS ?_
      apply Exists.intro
      apply And.intro
      · refine Or.inl (And.intro (by rfl) ?_)
        rintro w ⟨⟨s0, s1, s2, s3⟩, s4, s5⟩
        go_simp
        try rfl
      simp only [Act.put, List.setIfInBounds_toArray, List.set_cons_succ, List.set_cons_zero]
      refine wpAnyT_one (i := 2) (by as_aux_lemma => kernel_rfl) rfl ?_
      go_wp2_with fail
      refine (Right_c HV.out HK.out (HL.out.grow (hB.trans (hbZ.trans gz))) (HROW.out.grow gz)).mono ?_
      rintro e w4 ⟨rfl, hb4⟩
      go_wp2_with fail
      refine ⟨HS.grow hb4, ?_⟩
      refine wpAnyT_close (by as_aux_lemma => kernel_rfl) ?_
      refine wpAny_part (k := 4) (n := 2) (f := 0) rfl rfl (by as_aux_lemma => kernel_rfl) ?_
      simp only [List.drop_succ_cons, List.drop_zero, List.take_succ_cons, List.take_zero]
      go_wp2_with fail
      refine (FullN_c l.lo l.hi A C l.gs.length l.cs.length cA cC w4 hnc).mono ?_
      rintro e w5 ⟨rfl, hb5⟩
      have HE := Lib.hid ((beq_cast (rightN l c) (2 ^ l.cs.length - 1)).trans (rightN_full l c))
      have gz5 := gz.trans (hb4.trans hb5)
      have hb6 := hb1.trans (hb3.trans gz5)
      have HO6 := Lib.hid (own_grow HO.out hb6)
      have HR6 : Hid (RowsOf w5 (.slice A1 hs.length c1) hs) := fun h hh => ⟨((HR.out h hh).1).grow hb6, (HR.out h hh).2⟩
      have HROW6 := Lib.hid (HROW.out.grow gz5)
      have gW6 := hbr.trans hb6
      have hs6 := gz5.size
      replace HS := HS.grow (hb4.trans hb5)
      cases hok : okL l c
      · have heq : (((rightN l c : Nat) : Int) == ((2 ^ l.cs.length - 1 : Nat) : Int)) = false := by rw [HE.out, hok]
        have HF2 : Hid (hs.map Held.c = firstCounts l (k2 + 1)) := by rw [Hid, HFS.out, hok, HF.out]; simp
        clear hok HE HFS
        generalize ((2 ^ l.cs.length - 1 : Nat) : Int) = full at *
        go_wp2_with fail
        refine wpAny_done (by as_aux_lemma => kernel_rfl) ?_
        go_wp2_with fail
        go_roundw
        case rel => exact ⟨k2 + 1, _, hs, by omega, by go_num, rfl, by omega, HO6.out, HR6.out, HF2.out, gW6⟩
        case measure => simp [intOf]; omega
      · have heq : (((rightN l c : Nat) : Int) == ((2 ^ l.cs.length - 1 : Nat) : Int)) = true := by rw [HE.out, hok]
        have HF2 : Hid ((hs ++ [Held.mk c B cB]).map Held.c = firstCounts l (k2 + 1)) := by rw [Hid, HFS.out, hok, List.map_append, HF.out]; simp
        clear hok HE HFS
        generalize ((2 ^ l.cs.length - 1 : Nat) : Int) = full at *
        obtain ⟨-, s4, s5⟩ := HS
        have hsW := gW6.size
        go_wp2_with fail
        refine wpAny_done (by as_aux_lemma => kernel_rfl) ?_
        go_wp2_with (at_builtin; refine app_h W.heap.size rfl _ _ rfl _ hs ⟨c, B, cB⟩ rfl w5.heap.size rfl (newCell _ _ _ _ rfl) (newCell _ _ _ _ rfl) (own_grow HO6.out ((G.refl _).alloc _)) (by simp; omega) (by omega) ?_; intro v7 w7 o1 o2 o3)
        have g7 : G W w7 := (gW6.alloc _).grown o2 (fun q hq => own_base HO6.out q hq)
        have HO7 := Lib.hid o1
        have HR7 : Hid (RowsOf w7 v7 (hs ++ [Held.mk c B cB])) := by
          have hgr : ∀ (Bx : Option Addr) (bs : List Int), RowI w5 Bx bs → (bs ≠ [] → ∀ b off, Bx = some ⟨b, off, none⟩ → (Value.slice A1 hs.length c1).ownBlock ≠ some b) → RowI w7 Bx bs ∧ (bs ≠ [] → ∀ b off, Bx = some ⟨b, off, none⟩ → v7.ownBlock ≠ some b) := fun Bx bs h1 h2 => by
            refine ⟨fun j x hj => ?_, fun hne b off e h => ?_⟩
            · obtain ⟨b, off, e, hc⟩ := h1 j x hj
              exact ⟨b, off, e, grown_cell o2 (((G.refl w5).alloc _).cell hc) (h2 (by intro e; rw [e] at hj; simp at hj) b off e)⟩
            · rcases o3 with h3 | h3
              · exact h2 hne b off e (h3.symm.trans h)
              · have h4 := h1.below hne b off e
                rw [h] at h3
                injection h3 with h3
                simp at h3
                omega
          have hnewB : c.bs ≠ [] → ∀ b off, B = some ⟨b, off, none⟩ → (Value.slice A1 hs.length c1).ownBlock ≠ some b := fun _ b off e h => by
            have h1 := HNEW.out b off e
            have h2 := own_lt HO.out b h
            have h3 := hb1.size
            omega
          intro h hh
          rw [List.mem_append, List.mem_singleton] at hh
          rcases hh with hh | rfl
          · exact hgr h.B h.c.bs (HR6.out h hh).1 (HR6.out h hh).2
          · exact hgr B c.bs HROW6.out hnewB
        clear o1 o2 o3
        go_wp2_with fail
        go_roundw
        case rel => exact ⟨k2 + 1, _, hs ++ [Held.mk c B cB], by omega, by go_num, rfl, by simp; omega, HO7.out, HR7.out, HF2.out, g7⟩
        case measure => simp [intOf]; omega
    · have hk2 : k2 = (manyL l).toNat := by omega
      have HF2 : Hid (hs.map Held.c = refTruths l) := by rw [Hid, HF.out, hk2]; rfl
      have HL2 := Lib.hid (show hs.length = (refTruths l).length by rw [← HF2.out, List.length_map])
      clear t0 t1 t2 t3
      go_wp2_with fail
      go_ret
      obtain ⟨A9, c9, e9, r9⟩ := OwnH.row (own_grow HO.out hb1) (fun h hh => ⟨((HR.out h hh).1).grow hb1, (HR.out h hh).2⟩)
      simp only [Value.slice.injEq] at e9
      obtain ⟨rfl, -, rfl⟩ := e9
      rw [HF2.out] at r9
      exact ⟨⟨A1, c1, by rw [← HL2.out]; rfl, r9⟩, hB.trans hbr1⟩
end Go.Proofs.Ytogdhkecpjndlaa.C

/- The reference over some truths: bounds of what is owed, of the rate. -/
namespace Go.Proofs.Ytogdhkecpjndlaa.C
open Go.RowKit
set_option maxRecDepth 100000

def big : Int := 1099511627776
abbrev refB (q : Cn → Int) (ts : List Cn) : Int × Int := boundsF q (big, -big) ts
theorem boundsF_succ (q : Cn → Int) (r : Int × Int) {ts : List Cn} {j : Nat} (hj : j < ts.length) : boundsF q r (ts.take (j + 1)) = widen (boundsF q r (ts.take j)) (q ts[j]) := by
  unfold boundsF
  rw [List.take_succ_eq_append_getElem hj, List.foldl_append]
  rfl
theorem big_eq : big = 1099511627776 := rfl

set_option maxHeartbeats 4000000 in
theorem RBounds_c {l : Led} {A C T : Option Addr} {cA cC cT : Nat} {ts : List Cn} {g : Nat} {w : World} (hV : Valid l) (hK : ∀ c ∈ ts, CntOk l c) (hL : LedR w l A C) (hT : RowK w T ts) (hg : g < l.gs.length) (hl : ts.length ≤ 100000) :
    Calls Try.prog 63 #[ledV l A C cA cC, .slice T ts.length cT, .int .i64 g] w fun e w' => e = .returned (.agg #[.int .i64 (refB (fun c => owed l c g) ts).1, .int .i64 (refB (fun c => owed l c g) ts).2]) ∧ G w w' := by
  have HO := Lib.hid (fun (c : Cn) (hc : CntOk l c) (B : Option Addr) (cB : Nat) (w1 : World) (h : G w w1) (hB : RowI w1 B c.bs) => Owed_c (C := C) (cA := cA) (cC := cC) (cB := cB) hV hc (hL.g.grow h) hB hg)
  have HT := Lib.hid hT
  have HK := Lib.hid hK
  have HBD := Lib.hid (fun (c : Cn) (hc : CntOk l c) => owed_bd hV hc g)
  clear hT hK hL
  go_enter Try.func63, Try.ntmps63
  go_wp2_with fail
  have k0 : LBox (((w.alloc (.cells (cells4 l A C cA cC) 27)).alloc (.cells #[.int .i64 0, .int .i64 0] 23)).alloc (.cells #[.int .i64 1099511627776, .int .i64 (-1099511627776)] 23)) w.heap.size l A C cA cC := (LBox.one (w := w)).grow (((G.refl _).alloc _).alloc _)
  have q1 : Blk (((w.alloc (.cells (cells4 l A C cA cC) 27)).alloc (.cells #[.int .i64 0, .int .i64 0] 23)).alloc (.cells #[.int .i64 1099511627776, .int .i64 (-1099511627776)] 23)) (w.heap.size + 1) 23 #[.int .i64 0, .int .i64 0] := (Blk.new' (by simp)).grow ((G.refl _).alloc _)
  have q2 : Blk (((w.alloc (.cells (cells4 l A C cA cC) 27)).alloc (.cells #[.int .i64 0, .int .i64 0] 23)).alloc (.cells #[.int .i64 1099511627776, .int .i64 (-1099511627776)] 23)) (w.heap.size + 1 + 1) 23 #[.int .i64 1099511627776, .int .i64 (-1099511627776)] := Blk.new' (by simp)
  have hB : G w (((w.alloc (.cells (cells4 l A C cA cC) 27)).alloc (.cells #[.int .i64 0, .int .i64 0] 23)).alloc (.cells #[.int .i64 1099511627776, .int .i64 (-1099511627776)] 23)) := (((G.refl _).alloc _).alloc _).alloc _
  generalize ((w.alloc _).alloc _).alloc _ = W at *
  have K0 := Lib.hid k0
  have Q1 := Lib.hid q1
  have HGW := Lib.hid (fun (wr : World) (h : W.grownBy wr (some (w.heap.size + 1 + 1))) => (hB.grown h (fun q e => by cases e; omega) : G w wr))
  clear k0 q1
  go_loopw [8] (fun v8 wr => ∃ (j : Nat) (x y : Int), j ≤ ts.length ∧ v8 = .int .i64 j ∧ -big ≤ x ∧ x ≤ big ∧ -big ≤ y ∧ y ≤ big ∧ Hid (Blk wr (w.heap.size + 1 + 1) 23 #[.int .i64 x, .int .i64 y]) ∧ Hid (refB (fun c => owed l c g) (ts.take j) = (x, y)) ∧ Hid (W.grownBy wr (some (w.heap.size + 1 + 1)))) (fun v8 _ => ts.length - (intOf v8).toNat)
  case atStart => exact ⟨0, big, -big, by omega, rfl, by simp [big], by simp [big], by simp [big], by simp [big], q2, rfl, (grownBy_of (G.refl _)).but _⟩
  case round =>
    obtain ⟨j, x, y, hj, rfl, hx0, hx1, hy0, hy1, HB, HR, HW⟩ := hrel
    have gw := HGW.out wr HW.out
    have p2 := HB.out
    have u0 := p2.cell 0 (v := .int .i64 x) rfl
    have u1 := p2.cell 1 (v := .int .i64 y) rfl
    by_cases hlt : j < ts.length
    · obtain ⟨b, off, B, cB, rfl, d0, d1, d2⟩ := HT.out.at hlt
      have e0 := gw.cell d0
      have e1 := gw.cell d1
      have hc := HK.out ts[j] (List.getElem_mem hlt)
      have hbd := HBD.out ts[j] hc
      have HS2 := Lib.hid (boundsF_succ (fun c => owed l c g) (big, -big) hlt)
      have hcall := HO.out ts[j] hc B cB wr.drew gw.drew (d2.grow gw.drew)
      have s0 := grown_cell HW.out K0.out.1 (by simp; omega)
      have s1 := grown_cell HW.out K0.out.2.1 (by simp; omega)
      have s2 := grown_cell HW.out K0.out.2.2.1 (by simp; omega)
      have s3 := grown_cell HW.out K0.out.2.2.2 (by simp; omega)
      clear d0 d1 d2 hc
      generalize ts[j] = c at *
      generalize owed l c g = d at *
      have hji : (j : Int) < ts.length := by omega
      go_wp2_with fail
      go_still_tail 6, (by kernel_rfl)
      change wpList _ _ _ _ _ wr.drew
      go_wp2_with fail
      refine hcall.mono ?_
      rintro e w3 ⟨rfl, hb3⟩
      have p3 := (p2.grow (G.refl wr).drew).grow hb3
      have v0 := p3.cell 0 (v := .int .i64 x) rfl
      have v1 := p3.cell 1 (v := .int .i64 y) rfl
      have f0 := p3.frozen 0
      have f1 := p3.frozen 1
      clear u0 u1 e0 e1 s0 s1 s2 s3 hcall
      go_wp2_with fail
      have hb := big_eq
      have p4 := (p3.set 0 (.int .i64 (if d < x then d else x))).set 1 (.int .i64 (if y < d then d else y))
      have W4 := grownBy_trans (grownBy_trans (grownBy_G HW.out ((G.refl wr).drew.trans hb3)) (grownBy_set w3 ⟨w.heap.size + 1 + 1, 0, none⟩ (.int .i64 (if d < x then d else x)))) (grownBy_set _ ⟨w.heap.size + 1 + 1, 1, none⟩ (.int .i64 (if y < d then d else y)))
      go_roundw
      case rel => exact ⟨j + 1, _, _, by omega, by go_num, by split <;> omega, by split <;> omega, by split <;> omega, by split <;> omega, p4, HS2.out.trans (by rw [show boundsF (fun c => owed l c g) (big, -big) (ts.take j) = (x, y) from HR.out]; rfl), W4⟩
      case measure => simp [intOf]; omega
    · obtain rfl : j = ts.length := by omega
      have HR2 := Lib.hid (show refB (fun c => owed l c g) ts = (x, y) by have h := HR.out; rwa [List.take_length] at h)
      clear HR
      have p1 := Blk.grown Q1.out HW.out (by simp)
      have t0 := p1.cell 0 (v := .int .i64 0) rfl
      have t1 := p1.cell 1 (v := .int .i64 0) rfl
      have f0 := p1.frozen 0
      have f1 := p1.frozen 1
      go_wp2_with fail
      have q2 := (p1.set 0 (.int .i64 x)).set 1 (.int .i64 y)
      have x0 := q2.cell 0 (v := .int .i64 x) rfl
      have x1 := q2.cell 1 (v := .int .i64 y) rfl
      refine bodyPost_ret (v := .agg #[.int .i64 x, .int .i64 y]) (by simp [results, Try.results63, go_sem, x0, x1]) rfl ⟨by rw [HR2.out], (gw.setCell (by simp) _).setCell (by simp) _⟩

set_option maxHeartbeats 4000000 in
theorem RRate_c {T : Option Addr} {cT : Nat} {ts : List Cn} {w : World} (hT : RowK w T ts) (hr : ∀ c ∈ ts, 0 ≤ c.r ∧ c.r ≤ 30) (hl : ts.length ≤ 100000) :
    Calls Try.prog 62 #[.slice T ts.length cT] w fun e w' => e = .returned (.agg #[.int .i64 (refB (fun c => c.r) ts).1, .int .i64 (refB (fun c => c.r) ts).2]) ∧ G w w' := by
  have HT := Lib.hid hT
  have HRR := Lib.hid hr
  clear hT hr
  go_enter Try.func62, Try.ntmps62
  go_wp2_with fail
  have q1 : Blk ((w.alloc (.cells #[.int .i64 0, .int .i64 0] 23)).alloc (.cells #[.int .i64 1099511627776, .int .i64 (-1099511627776)] 23)) w.heap.size 23 #[.int .i64 0, .int .i64 0] := (Blk.new _ _ _).grow ((G.refl _).alloc _)
  have q2 : Blk ((w.alloc (.cells #[.int .i64 0, .int .i64 0] 23)).alloc (.cells #[.int .i64 1099511627776, .int .i64 (-1099511627776)] 23)) (w.heap.size + 1) 23 #[.int .i64 1099511627776, .int .i64 (-1099511627776)] := Blk.new' (by simp)
  have hB : G w ((w.alloc (.cells #[.int .i64 0, .int .i64 0] 23)).alloc (.cells #[.int .i64 1099511627776, .int .i64 (-1099511627776)] 23)) := ((G.refl _).alloc _).alloc _
  generalize (w.alloc _).alloc _ = W at *
  have Q1 := Lib.hid q1
  have HGW := Lib.hid (fun (wr : World) (h : W.grownBy wr (some (w.heap.size + 1))) => (hB.grown h (fun q e => by cases e; omega) : G w wr))
  clear q1
  go_loopw [4] (fun v4 wr => ∃ (j : Nat) (x y : Int), j ≤ ts.length ∧ v4 = .int .i64 j ∧ -big ≤ x ∧ x ≤ big ∧ -big ≤ y ∧ y ≤ big ∧ Hid (Blk wr (w.heap.size + 1) 23 #[.int .i64 x, .int .i64 y]) ∧ Hid (refB (fun c => c.r) (ts.take j) = (x, y)) ∧ Hid (W.grownBy wr (some (w.heap.size + 1)))) (fun v4 _ => ts.length - (intOf v4).toNat)
  case atStart => exact ⟨0, big, -big, by omega, rfl, by simp [big], by simp [big], by simp [big], by simp [big], q2, rfl, (grownBy_of (G.refl _)).but _⟩
  case round =>
    obtain ⟨j, x, y, hj, rfl, hx0, hx1, hy0, hy1, HB, HR, HW⟩ := hrel
    have gw := HGW.out wr HW.out
    have p2 := HB.out
    have u0 := p2.cell 0 (v := .int .i64 x) rfl
    have u1 := p2.cell 1 (v := .int .i64 y) rfl
    by_cases hlt : j < ts.length
    · obtain ⟨b, off, B, cB, rfl, d0, d1, d2⟩ := HT.out.at hlt
      have e0 := gw.cell d0
      have hbd := HRR.out ts[j] (List.getElem_mem hlt)
      have HS2 := Lib.hid (boundsF_succ (fun c => c.r) (big, -big) hlt)
      clear d0 d1 d2
      generalize hd : ts[j].r = d at *
      have HDD := Lib.hid hd
      clear hd
      have hji : (j : Int) < ts.length := by omega
      have f0 := p2.frozen 0
      have f1 := p2.frozen 1
      have hb := big_eq
      go_wp2_with fail
      go_still_tail 17, (by kernel_rfl)
      change wpList _ _ _ _ _ wr.drew
      have v0 := (p2.grow (G.refl wr).drew).cell 0 (v := .int .i64 x) rfl
      have v1 := (p2.grow (G.refl wr).drew).cell 1 (v := .int .i64 y) rfl
      have f2 := (p2.grow (G.refl wr).drew).frozen 0
      have f3 := (p2.grow (G.refl wr).drew).frozen 1
      go_wp2_with fail
      have p4 := ((p2.grow (G.refl wr).drew).set 0 (.int .i64 (if d < x then d else x))).set 1 (.int .i64 (if y < d then d else y))
      have W4 := grownBy_trans (grownBy_trans (grownBy_G HW.out (G.refl wr).drew) (grownBy_set wr.drew ⟨w.heap.size + 1, 0, none⟩ (.int .i64 (if d < x then d else x)))) (grownBy_set _ ⟨w.heap.size + 1, 1, none⟩ (.int .i64 (if y < d then d else y)))
      go_roundw
      case rel => exact ⟨j + 1, _, _, by omega, by go_num, by split <;> omega, by split <;> omega, by split <;> omega, by split <;> omega, p4, HS2.out.trans (by rw [show boundsF (fun c => c.r) (big, -big) (ts.take j) = (x, y) from HR.out]; rfl), W4⟩
      case measure => simp [intOf]; omega
    · obtain rfl : j = ts.length := by omega
      have HR2 := Lib.hid (show refB (fun c => c.r) ts = (x, y) by have h := HR.out; rwa [List.take_length] at h)
      clear HR
      have p1 := Blk.grown Q1.out HW.out (by simp)
      have t0 := p1.cell 0 (v := .int .i64 0) rfl
      have t1 := p1.cell 1 (v := .int .i64 0) rfl
      have f0 := p1.frozen 0
      have f1 := p1.frozen 1
      go_wp2_with fail
      have q2 := (p1.set 0 (.int .i64 x)).set 1 (.int .i64 y)
      have x0 := q2.cell 0 (v := .int .i64 x) rfl
      have x1 := q2.cell 1 (v := .int .i64 y) rfl
      refine bodyPost_ret (v := .agg #[.int .i64 x, .int .i64 y]) (by simp [results, Try.results62, go_sem, x0, x1]) rfl ⟨by rw [HR2.out], (gw.setCell (by simp) _).setCell (by simp) _⟩
end Go.Proofs.Ytogdhkecpjndlaa.C

/- The reference over some truths: who has paid back, what a count leaves, whom to ask, the full sum, what is surely got; the laws' asked and sure. -/
namespace Go.Proofs.Ytogdhkecpjndlaa.C
open Go.RowKit
set_option maxRecDepth 100000

def cntC (p : Cn → Bool) (ts : List Cn) : Nat := ts.countP p
theorem cntC_succ (p : Cn → Bool) {ts : List Cn} {j : Nat} (hj : j < ts.length) : cntC p (ts.take (j + 1)) = cntC p (ts.take j) + if p ts[j] = true then 1 else 0 := by
  unfold cntC
  rw [List.take_succ_eq_append_getElem hj, List.countP_append]
  simp [List.countP_cons]
theorem cntC_le (p : Cn → Bool) (ts : List Cn) : cntC p ts ≤ ts.length := List.countP_le_length
def refClear (l : Led) (ts : List Cn) (g : Nat) : Int := if cntC (fun c => decide (0 ≤ owed l c g)) ts = ts.length then 1 else if cntC (fun c => decide (0 ≤ owed l c g)) ts = 0 then 2 else 3

set_option maxHeartbeats 4000000 in
theorem RClear_c {l : Led} {A C T : Option Addr} {cA cC cT : Nat} {ts : List Cn} {g : Nat} {w : World} (hV : Valid l) (hK : ∀ c ∈ ts, CntOk l c) (hL : LedR w l A C) (hT : RowK w T ts) (hg : g < l.gs.length) (hl : ts.length ≤ 100000) :
    Calls Try.prog 27 #[ledV l A C cA cC, .slice T ts.length cT, .int .i64 g] w fun e w' => e = .returned (.int .i64 (refClear l ts g)) ∧ G w w' := by
  have HO := Lib.hid (fun (c : Cn) (hc : CntOk l c) (B : Option Addr) (cB : Nat) (w1 : World) (h : G w w1) (hB : RowI w1 B c.bs) => Owed_c (C := C) (cA := cA) (cC := cC) (cB := cB) hV hc (hL.g.grow h) hB hg)
  have HT := Lib.hid hT
  have HK := Lib.hid hK
  have HRC : Hid (refClear l ts g = if cntC (fun c => decide (0 ≤ owed l c g)) ts = ts.length then 1 else if cntC (fun c => decide (0 ≤ owed l c g)) ts = 0 then 2 else 3) := rfl
  clear hT hK hL
  go_enter Try.func27, Try.ntmps27
  go_wp2_with fail
  have k0 := LBox.one (w := w) (l := l) (A := A) (C := C) (cA := cA) (cC := cC)
  have hB : G w (w.alloc (.cells (cells4 l A C cA cC) 27)) := (G.refl _).alloc _
  generalize w.alloc _ = W at *
  have K0 := Lib.hid k0
  clear k0
  go_loopw [7, 8] (fun v7 v8 wr => ∃ (j y : Nat), j ≤ ts.length ∧ v8 = .int .i64 j ∧ v7 = .int .i64 y ∧ y ≤ j ∧ Hid (y = cntC (fun c => decide (0 ≤ owed l c g)) (ts.take j)) ∧ G W wr) (fun _ v8 _ => ts.length - (intOf v8).toNat)
  case atStart => exact ⟨0, 0, by omega, rfl, rfl, by omega, by simp [Hid, cntC], G.refl _⟩
  case round =>
    obtain ⟨j, y, hj, rfl, rfl, hy, HY, hbr⟩ := hrel
    have gw := hB.trans hbr
    obtain ⟨s0, s1, s2, s3⟩ := K0.out.grow hbr
    by_cases hlt : j < ts.length
    · obtain ⟨b, off, B, cB, rfl, d0, d1, d2⟩ := HT.out.at hlt
      have e0 := gw.cell d0
      have e1 := gw.cell d1
      have hc := HK.out ts[j] (List.getElem_mem hlt)
      have HS2 := Lib.hid (cntC_succ (fun c => decide (0 ≤ owed l c g)) hlt)
      have hcall := HO.out ts[j] hc B cB wr.drew gw.drew (d2.grow gw.drew)
      clear d0 d1 d2 hc
      generalize ts[j] = c at *
      have HD : Hid (decide (0 ≤ owed l c g) = decide (0 ≤ owed l c g)) := rfl
      generalize owed l c g = d at *
      have hji : (j : Int) < ts.length := by omega
      by_cases hd : 0 ≤ d
      all_goals
        go_wp2_with fail
        go_still_tail 6, (by kernel_rfl)
        change wpList _ _ _ _ _ wr.drew
        go_wp2_with fail
        refine hcall.mono ?_
        rintro e w3 ⟨rfl, hb3⟩
        go_wp2_with fail
        go_roundw
        case rel =>
          first
            | exact ⟨j + 1, y + 1, by omega, by go_num, by go_num, by omega, by rw [Hid, HS2.out, HY.out]; simp [hd], hbr.drew.trans hb3⟩
            | exact ⟨j + 1, y, by omega, by go_num, rfl, by omega, by rw [Hid, HS2.out, HY.out]; simp; omega, hbr.drew.trans hb3⟩
        case measure => simp [intOf]; omega
    · obtain rfl : j = ts.length := by omega
      have HY2 := Lib.hid (show cntC (fun c => decide (0 ≤ owed l c g)) ts = y by have h := HY.out; rw [List.take_length] at h; exact h.symm)
      rw [HY2.out] at HRC
      by_cases h1 : y = ts.length
      · have HE := Lib.hid (HRC.out.trans (if_pos h1))
        have h1b : ((y : Int) == ts.length) = true := by simp [h1]
        clear h1 HY
        go_wp2_with fail
        go_ret
        exact ⟨ret_i HE.out.symm, gw⟩
      · have h1b : ((y : Int) == ts.length) = false := by simp; omega
        by_cases h2 : y = 0
        · have HE := Lib.hid (HRC.out.trans ((if_neg h1).trans (if_pos h2)))
          have h2b : ((y : Int) == 0) = true := by simp [h2]
          clear h1 h2 HY
          go_wp2_with fail
          go_ret
          exact ⟨ret_i HE.out.symm, gw⟩
        · have HE := Lib.hid (HRC.out.trans ((if_neg h1).trans (if_neg h2)))
          have h2b : ((y : Int) == 0) = false := by simp; omega
          clear h1 h2 HY
          go_wp2_with fail
          go_ret
          exact ⟨ret_i HE.out.symm, gw⟩

/-! ### What a count leaves -/
def cntB (ts : List Cn) (g n : Nat) : Nat := cntC (fun c => decide (c.b g = (n : Int))) ts
def refLeavesTo (ts : List Cn) (g : Nat) : Nat → Nat
  | 0 => 0
  | n + 1 => max (refLeavesTo ts g n) (cntB ts g n)
def refLeaves (ts : List Cn) (g : Nat) : Nat := refLeavesTo ts g 10
theorem refLeavesTo_le (ts : List Cn) (g : Nat) : ∀ n, refLeavesTo ts g n ≤ ts.length
  | 0 => by simp [refLeavesTo]
  | n + 1 => by
    have := refLeavesTo_le ts g n
    have h2 : cntB ts g n ≤ ts.length := cntC_le _ _
    rw [refLeavesTo]
    omega

set_option maxHeartbeats 4000000 in
theorem RLeaves_c {T : Option Addr} {cT : Nat} {ts : List Cn} {g : Nat} {w : World} (hT : RowK w T ts) (hr : ∀ c ∈ ts, g < c.bs.length) (hl : ts.length ≤ 100000) :
    Calls Try.prog 54 #[.slice T ts.length cT, .int .i64 g] w fun e w' => e = .returned (.int .i64 (refLeaves ts g)) ∧ G w w' := by
  have HT := Lib.hid hT
  have HRR := Lib.hid hr
  have HLE := Lib.hid (refLeavesTo_le ts g)
  clear hT hr
  go_enter Try.func54, Try.ntmps54
  go_wp2_with fail
  go_loopw [5, 6] (fun v5 v6 wr => ∃ (n m : Nat), n ≤ 10 ∧ v6 = .int .i64 n ∧ v5 = .int .i64 m ∧ m ≤ 100000 ∧ Hid (m = refLeavesTo ts g n) ∧ G w wr) (fun _ v6 _ => 10 - (intOf v6).toNat)
  case atStart => exact ⟨0, 0, by omega, rfl, rfl, by omega, rfl, G.refl _⟩
  case round =>
    obtain ⟨n, m, hn, rfl, rfl, hm, HM, hbr⟩ := hrel
    by_cases hn9 : n ≤ 9
    · have hni : (n : Int) ≤ 9 := by omega
      obtain ⟨wo, rfl⟩ : ∃ wo : World, wo = wr := ⟨_, rfl⟩
      go_wp2_with fail
      go_loopw [7, 8] (fun v7 v8 wq => ∃ (j y : Nat), j ≤ ts.length ∧ v8 = .int .i64 j ∧ v7 = .int .i64 y ∧ y ≤ j ∧ Hid (y = cntB (ts.take j) g n) ∧ G w wq) (fun _ v8 _ => ts.length - (intOf v8).toNat)
      case atStart => exact ⟨0, 0, by omega, rfl, rfl, by omega, by simp [Hid, cntB, cntC], hbr⟩
      case round =>
        obtain ⟨j, y, hj, rfl, rfl, hy, HY, hbq⟩ := hrel
        by_cases hlt : j < ts.length
        · obtain ⟨b, off, B, cB, rfl, d0, d1, d2⟩ := HT.out.at hlt
          have hgb := HRR.out ts[j] (List.getElem_mem hlt)
          obtain ⟨b2, off2, rfl, d3⟩ := d2.at hgb
          have e1 := hbq.cell d1
          have e3 := hbq.cell d3
          have HS2 := Lib.hid (cntC_succ (fun c => decide (c.b g = (n : Int))) hlt)
          have hbx : ts[j].bs[g] = ts[j].b g := by simp [Cn.b, List.getD, hgb]
          rw [hbx] at e3
          have hgi : (g : Int) < ts[j].bs.length := by omega
          have hji : (j : Int) < ts.length := by omega
          clear d0 d1 d2 d3 hbx
          generalize ts[j] = c at *
          generalize hcb : c.b g = d at *
          have HCB := Lib.hid hcb
          clear hcb
          by_cases hd : d = n
          · have hdb : (d == (n : Int)) = true := by simp [hd]
            have HY2 : Hid (y + 1 = cntB (ts.take (j + 1)) g n) := by
              have h := HS2.out
              rw [show decide (d = (n : Int)) = true by simp [hd], if_pos rfl] at h
              rw [Hid, HY.out]
              exact h.symm
            clear hd
            go_wp2_with fail
            go_roundw
            case rel => exact ⟨j + 1, y + 1, by omega, by go_num, by go_num, by omega, HY2.out, hbq⟩
            case measure => simp [intOf]; omega
          · have hdb : (d == (n : Int)) = false := by simp [hd]
            have HY2 : Hid (y = cntB (ts.take (j + 1)) g n) := by
              have h := HS2.out
              rw [show decide (d = (n : Int)) = false by simp [hd]] at h
              rw [Hid, HY.out]
              exact h.symm
            clear hd
            go_wp2_with fail
            go_roundw
            case rel => exact ⟨j + 1, y, by omega, by go_num, rfl, by omega, HY2.out, hbq⟩
            case measure => simp [intOf]; omega
        · obtain rfl : j = ts.length := by omega
          have HY2 := Lib.hid (show refLeavesTo ts g (n + 1) = max m y by have h := HY.out; rw [List.take_length] at h; rw [refLeavesTo, ← HM.out, ← h])
          have hle := HLE.out (n + 1)
          rw [HY2.out] at hle
          by_cases hmy : m < y
          all_goals
            go_wp2_with fail
            go_roundw
            case rel => exact ⟨n + 1, max m y, by omega, by go_num, by (first | rfl | (congr 1; omega) | (simp; omega)), by omega, HY2.out.symm, hbq⟩
            case measure => simp [intOf]; omega
    · obtain rfl : n = 10 := by omega
      go_wp2_with fail
      go_ret
      exact ⟨ret_i (by rw [HM.out]; rfl), hbr⟩

/-! ### Whom to ask -/
def refAskTo (ts : List Cn) : Nat → Nat × Nat
  | 0 => (0, refLeaves ts 0)
  | i + 1 => if refLeaves ts (i + 1) < (refAskTo ts i).2 then (i + 1, refLeaves ts (i + 1)) else refAskTo ts i
theorem refAskTo_le (ts : List Cn) : ∀ i, (refAskTo ts i).1 ≤ i ∧ (refAskTo ts i).2 ≤ ts.length
  | 0 => ⟨Nat.le_refl _, refLeavesTo_le ts 0 10⟩
  | i + 1 => by
    have h := refAskTo_le ts i
    have h2 : refLeaves ts (i + 1) ≤ ts.length := refLeavesTo_le ts (i + 1) 10
    rw [refAskTo]
    split
    · exact ⟨Nat.le_refl _, h2⟩
    · exact ⟨by omega, h.2⟩

set_option maxHeartbeats 4000000 in
theorem RAsk_c {l : Led} {A C T : Option Addr} {cA cC cT : Nat} {ts : List Cn} {w : World} (hng : 0 < l.gs.length) (hng4 : l.gs.length ≤ 4) (hT : RowK w T ts) (hr : ∀ c ∈ ts, c.bs.length = l.gs.length) (hl : ts.length ≤ 100000) :
    Calls Try.prog 28 #[ledV l A C cA cC, .slice T ts.length cT] w fun e w' => e = .returned (.tuple #[.int .i64 (refAskTo ts (l.gs.length - 1)).1, .int .i64 (refAskTo ts (l.gs.length - 1)).2]) ∧ G w w' := by
  have HLV := Lib.hid (fun (g : Nat) (hg : g < l.gs.length) (w1 : World) (h : G w w1) => RLeaves_c (cT := cT) (hT.grow h) (fun c hc => by have := hr c hc; omega : ∀ c ∈ ts, g < c.bs.length) hl)
  have HAL := Lib.hid (refAskTo_le ts)
  have HLL := Lib.hid (fun g => refLeavesTo_le ts g 10)
  clear hT hr
  go_enter Try.func28, Try.ntmps28
  go_wp2_with fail
  have k0 := LBox.one (w := w) (l := l) (A := A) (C := C) (cA := cA) (cC := cC)
  have hB : G w (w.alloc (.cells (cells4 l A C cA cC) 27)) := (G.refl _).alloc _
  generalize w.alloc _ = W at *
  have K0 := Lib.hid k0
  clear k0
  have h0 := HLV.out 0 hng W hB
  refine h0.mono ?_
  rintro e w1 ⟨rfl, hb1⟩
  clear h0
  go_wp2_with fail
  go_loopw [6, 7, 8] (fun v6 v7 v8 wr => ∃ (i a m : Nat), i < l.gs.length ∧ v8 = .int .i64 ((i + 1 : Nat) : Int) ∧ v6 = .int .i64 a ∧ v7 = .int .i64 m ∧ a ≤ 4 ∧ m ≤ 100000 ∧ Hid (refAskTo ts i = (a, m)) ∧ G W wr) (fun _ _ v8 _ => l.gs.length - (intOf v8).toNat)
  case atStart => exact ⟨0, 0, refLeaves ts 0, by omega, rfl, rfl, rfl, by omega, by have := HLL.out 0; unfold refLeaves; omega, rfl, hb1⟩
  case round =>
    obtain ⟨i, a, m, hi, rfl, rfl, rfl, ha, hm, HA, hbr⟩ := hrel
    have gw := hB.trans hbr
    obtain ⟨s0, s1, s2, s3⟩ := K0.out.grow hbr
    by_cases hlt : i + 1 < l.gs.length
    · have hlti : (i : Int) + 1 < l.gs.length := by omega
      have hcall := HLV.out (i + 1) hlt wr gw
      have hle : refLeaves ts (i + 1) ≤ ts.length := HLL.out (i + 1)
      have HAX : Hid (refAskTo ts (i + 1) = if refLeaves ts (i + 1) < m then (i + 1, refLeaves ts (i + 1)) else (a, m)) := by rw [Hid, refAskTo, HA.out]
      generalize refLeaves ts (i + 1) = q at *
      go_wp2_with fail
      refine hcall.mono ?_
      rintro e w2 ⟨rfl, hb2⟩
      by_cases hq : q < m
      · have hqi : (q : Int) < m := by omega
        have HA2 := Lib.hid (HAX.out.trans (if_pos hq))
        go_wp2_with fail
        go_roundw
        case rel => exact ⟨i + 1, i + 1, q, by omega, by go_num, by go_num, rfl, by omega, by omega, HA2.out, hbr.trans hb2⟩
        case measure => simp [intOf]; omega
      · have hqi : ¬ (q : Int) < m := by omega
        have HA2 := Lib.hid (HAX.out.trans (if_neg hq))
        go_wp2_with fail
        go_roundw
        case rel => exact ⟨i + 1, a, m, by omega, by go_num, rfl, rfl, by omega, by omega, HA2.out, hbr.trans hb2⟩
        case measure => simp [intOf]; omega
    · have hlti : ¬ (i : Int) + 1 < l.gs.length := by omega
      have hi2 : l.gs.length - 1 = i := by omega
      have HA2 := Lib.hid (show refAskTo ts (l.gs.length - 1) = (a, m) by rw [hi2]; exact HA.out)
      clear hi2
      go_wp2_with fail
      go_ret2
      exact ⟨by rw [HA2.out]; rfl, gw⟩
end Go.Proofs.Ytogdhkecpjndlaa.C

/- The reference over some truths: the full sum, what is surely got; the laws' asked and sure. -/
namespace Go.Proofs.Ytogdhkecpjndlaa.C
open Go.RowKit
set_option maxRecDepth 100000

theorem getD_of {xs : List Int} {i : Nat} (h : i < xs.length) : xs.getD i 0 = xs[i] := by simp [List.getD, h]
def refWhole (l : Led) (ts : List Cn) : Int := maxL 0 (ts.map fun c => totalFrom 0 (dues l c))
theorem maxL_snoc : ∀ (xs : List Int) (m x : Int), maxL m (xs ++ [x]) = if maxL m xs < x then x else maxL m xs
  | [], m, x => rfl
  | y :: ys, m, x => by rw [List.cons_append, maxL, maxL_snoc ys, maxL]
theorem minL_snoc : ∀ (xs : List Int) (m x : Int), minL m (xs ++ [x]) = if x < minL m xs then x else minL m xs
  | [], m, x => rfl
  | y :: ys, m, x => by rw [List.cons_append, minL, minL_snoc ys, minL]
theorem total_bd {l : Led} {c : Cn} (hV : Valid l) (hK : CntOk l c) : 0 ≤ totalFrom 0 (dues l c) ∧ totalFrom 0 (dues l c) ≤ 4000000 := by
  have h := totalFrom_bd (dues l c) 0 (dues_bd hV hK)
  have h2 := totalFrom_nonneg (dues l c) 0 (by omega)
  have h3 := dues_len l c
  have h4 := hV.ng
  exact ⟨h2, by omega⟩

set_option maxHeartbeats 4000000 in
theorem RWhole_c {l : Led} {A C T : Option Addr} {cA cC cT : Nat} {ts : List Cn} {w : World} (hV : Valid l) (hK : ∀ c ∈ ts, CntOk l c) (hL : LedR w l A C) (hT : RowK w T ts) (hl : ts.length ≤ 100000) :
    Calls Try.prog 36 #[ledV l A C cA cC, .slice T ts.length cT] w fun e w' => e = .returned (.int .i64 (refWhole l ts)) ∧ G w w' := by
  have HO := Lib.hid (fun (c : Cn) (hc : CntOk l c) (B : Option Addr) (cB : Nat) (w1 : World) (h : G w w1) (hB : RowI w1 B c.bs) => Total_c (C := C) (cA := cA) (cC := cC) (cB := cB) hV hc (hL.g.grow h) hB)
  have HT := Lib.hid hT
  have HK := Lib.hid hK
  have HBD := Lib.hid (fun (c : Cn) (hc : CntOk l c) => total_bd hV hc)
  clear hT hK hL
  go_enter Try.func36, Try.ntmps36
  go_wp2_with fail
  have k0 := LBox.one (w := w) (l := l) (A := A) (C := C) (cA := cA) (cC := cC)
  have hB : G w (w.alloc (.cells (cells4 l A C cA cC) 27)) := (G.refl _).alloc _
  generalize w.alloc _ = W at *
  have K0 := Lib.hid k0
  clear k0
  go_loopw [5, 6] (fun v5 v6 wr => ∃ (j : Nat) (m : Int), j ≤ ts.length ∧ v6 = .int .i64 j ∧ v5 = .int .i64 m ∧ 0 ≤ m ∧ m ≤ 4000000 ∧ Hid (m = maxL 0 ((ts.take j).map fun c => totalFrom 0 (dues l c))) ∧ G W wr) (fun _ v6 _ => ts.length - (intOf v6).toNat)
  case atStart => exact ⟨0, 0, by omega, rfl, rfl, by omega, by omega, by simp [Hid, maxL], G.refl _⟩
  case round =>
    obtain ⟨j, m, hj, rfl, rfl, hm0, hm1, HM, hbr⟩ := hrel
    have gw := hB.trans hbr
    obtain ⟨s0, s1, s2, s3⟩ := K0.out.grow hbr
    by_cases hlt : j < ts.length
    · obtain ⟨b, off, B, cB, rfl, d0, d1, d2⟩ := HT.out.at hlt
      have e0 := gw.cell d0
      have e1 := gw.cell d1
      have hc := HK.out ts[j] (List.getElem_mem hlt)
      have hbd := HBD.out ts[j] hc
      have HS2 : Hid (maxL 0 ((ts.take (j + 1)).map fun c => totalFrom 0 (dues l c)) = if m < totalFrom 0 (dues l ts[j]) then totalFrom 0 (dues l ts[j]) else m) := by
        rw [Hid, List.take_succ_eq_append_getElem hlt, List.map_append, HM.out]
        exact maxL_snoc _ _ _
      have hcall := HO.out ts[j] hc B cB
      have hrow := d2.grow gw
      clear d0 d1 d2 hc
      generalize ts[j] = c at *
      generalize totalFrom 0 (dues l c) = d at *
      have hji : (j : Int) < ts.length := by omega
      go_wp2_with fail
      refine wp_region_A (by as_aux_lemma => kernel_rfl) ?_
      obtain ⟨z, hz⟩ : ∃ z : World, z = { wr with drawn := wr.drawn + 1 } := ⟨_, rfl⟩
      rw [← hz]
      have gz : G wr z := by rw [hz]; exact (G.refl _).drew
      clear hz
      have HS : LBox z w.heap.size l A C cA cC ∧ z.cell? ⟨b, off + j * 2, none⟩ = some (.int .i64 c.r) ∧ z.cell? ⟨b, off + j * 2 + 1, none⟩ = some (.slice B c.bs.length cB) := ⟨(K0.out.grow hbr).grow gz, gz.cell e0, gz.cell e1⟩
      clear s0 s1 s2 s3 e0 e1
      refine wpAny_fork (fun w' => LBox w' w.heap.size l A C cA cC ∧ w'.cell? ⟨b, off + j * 2, none⟩ = some (.int .i64 c.r) ∧ w'.cell? ⟨b, off + j * 2 + 1, none⟩ = some (.slice B c.bs.length cB)) 7 ?_
      refine wpAnyU_takes (i := 0) rfl (by as_aux_lemma => kernel_rfl) (fun _ _ _ _ h => h) HS ?_
      apply Exists.intro
      apply And.intro
      · refine Or.inl (And.intro (by rfl) ?_)
        rintro w ⟨⟨s0, s1, s2, s3⟩, s4, s5⟩
        go_simp
        try rfl
      simp only [Act.put, List.setIfInBounds_toArray, List.set_cons_succ, List.set_cons_zero]
      refine wpAnyU_takes (i := 1) rfl (by as_aux_lemma => kernel_rfl) (fun _ _ _ _ h => h) HS ?_
      apply Exists.intro
      apply And.intro
      · refine Or.inl (And.intro (by rfl) ?_)
        rintro w ⟨⟨s0, s1, s2, s3⟩, s4, s5⟩
        go_simp
        try rfl
      simp only [Act.put, List.setIfInBounds_toArray, List.set_cons_succ, List.set_cons_zero]
      refine wpAnyU_takes (i := 2) rfl (by as_aux_lemma => kernel_rfl) (fun _ _ _ _ h => h) HS ?_
      apply Exists.intro
      apply And.intro
      · refine Or.inl (And.intro (by rfl) ?_)
        rintro w ⟨⟨s0, s1, s2, s3⟩, s4, s5⟩
        go_simp
        try rfl
      simp only [Act.put, List.setIfInBounds_toArray, List.set_cons_succ, List.set_cons_zero]
      refine wpAnyU_takes (i := 3) rfl (by as_aux_lemma => kernel_rfl) (fun _ _ _ _ h => h) HS ?_
      apply Exists.intro
      apply And.intro
      · refine Or.inl (And.intro (by rfl) ?_)
        rintro w ⟨⟨s0, s1, s2, s3⟩, s4, s5⟩
        go_simp
        try rfl
      simp only [Act.put, List.setIfInBounds_toArray, List.set_cons_succ, List.set_cons_zero]
      refine wpAnyU_takes (i := 4) rfl (by as_aux_lemma => kernel_rfl) (fun _ _ _ _ h => h) HS ?_
      apply Exists.intro
      apply And.intro
      · refine Or.inl (And.intro (by rfl) ?_)
        rintro w ⟨⟨s0, s1, s2, s3⟩, s4, s5⟩
        go_simp
        try rfl
      simp only [Act.put, List.setIfInBounds_toArray, List.set_cons_succ, List.set_cons_zero]
      refine wpAnyU_takes (i := 5) rfl (by as_aux_lemma => kernel_rfl) (fun _ _ _ _ h => h) HS ?_
      apply Exists.intro
      apply And.intro
      · refine Or.inl (And.intro (by rfl) ?_)
        rintro w ⟨⟨s0, s1, s2, s3⟩, s4, s5⟩
        go_simp
        try rfl
      simp only [Act.put, List.setIfInBounds_toArray, List.set_cons_succ, List.set_cons_zero]
      refine wpAnyT_one (i := 6) (by as_aux_lemma => kernel_rfl) rfl ?_
      go_wp2_with fail
      refine (hcall z (gw.trans gz) (hrow.grow gz)).mono ?_
      rintro e w3 ⟨rfl, hb3⟩
      go_wp2_with fail
      refine ⟨⟨HS.1.grow hb3, hb3.cell HS.2.1, hb3.cell HS.2.2⟩, ?_⟩
      by_cases hmd : m < d
      all_goals
        refine wpAnyT_close (by as_aux_lemma => kernel_rfl) ?_
        refine wpAny_part (k := 7) (n := 2) (f := 0) rfl rfl (by as_aux_lemma => kernel_rfl) ?_
        simp only [List.drop_succ_cons, List.drop_zero, List.take_succ_cons, List.take_zero]
        go_wp2_with fail
        refine wpAny_done (by as_aux_lemma => kernel_rfl) ?_
        go_wp2_with fail
        go_roundw
        case rel => exact ⟨j + 1, _, by omega, by go_num, rfl, by omega, by omega, (by first | exact (HS2.out.trans (if_pos hmd)).symm | exact (HS2.out.trans (if_neg (by omega))).symm), hbr.trans (gz.trans hb3)⟩
        case measure => simp [intOf]; omega
    · obtain rfl : j = ts.length := by omega
      have HM2 := Lib.hid (show refWhole l ts = m by have h := HM.out; rw [List.take_length] at h; exact h.symm)
      go_wp2_with fail
      go_ret
      exact ⟨ret_i HM2.out.symm, gw⟩

def refLeast (l : Led) (ts : List Cn) (sum : Int) (g : Nat) : Int := minL big (ts.map fun c => (shareL (dues l c) sum).getD g 0)
set_option maxHeartbeats 4000000 in
theorem RLeast_c {l : Led} {A C T : Option Addr} {cA cC cT : Nat} {ts : List Cn} {sum : Int} {g : Nat} {w : World} (hV : Valid l) (hK : ∀ c ∈ ts, CntOk l c) (hL : LedR w l A C) (hT : RowK w T ts) (hg : g < l.gs.length) (hl : ts.length ≤ 100000) (h0 : 0 ≤ sum) (h1 : sum ≤ 9999) :
    Calls Try.prog 38 #[ledV l A C cA cC, .slice T ts.length cT, .int .i64 sum, .int .i64 g] w fun e w' => e = .returned (.int .i64 (refLeast l ts sum g)) ∧ G w w' := by
  have HO := Lib.hid (fun (c : Cn) (hc : CntOk l c) (B : Option Addr) (cB : Nat) (w1 : World) (h : G w w1) (hB : RowI w1 B c.bs) => Share33_c (C := C) (cA := cA) (cC := cC) (cB := cB) hV hc (hL.g.grow h) hB h0 h1)
  have HT := Lib.hid hT
  have HK := Lib.hid hK
  have HBD := Lib.hid (fun (c : Cn) (hc : CntOk l c) => (show 0 ≤ (shareL (dues l c) sum).getD g 0 ∧ (shareL (dues l c) sum).getD g 0 ≤ 1000000 by
    have hgd : g < (dues l c).length := by rw [dues_len]; exact hg
    have h2 := share_bd (ds := dues l c) h0 hgd
    have h3 := dues_bd hV hc ((dues l c).getD g 0) (by rw [getD_of hgd]; exact List.getElem_mem _)
    have h4 : pos ((dues l c).getD g 0) ≤ 1000000 := by unfold pos; split <;> omega
    omega))
  have HSL := Lib.hid (fun (c : Cn) => (show (shareL (dues l c) sum).length = l.gs.length by rw [shareL_len, dues_len]))
  clear hT hK hL
  go_enter Try.func38, Try.ntmps38
  go_wp2_with fail
  have k0 := LBox.one (w := w) (l := l) (A := A) (C := C) (cA := cA) (cC := cC)
  have hB : G w (w.alloc (.cells (cells4 l A C cA cC) 27)) := (G.refl _).alloc _
  generalize w.alloc _ = W at *
  have K0 := Lib.hid k0
  clear k0
  go_loopw [9, 10] (fun v9 v10 wr => ∃ (j : Nat) (m : Int), j ≤ ts.length ∧ v10 = .int .i64 j ∧ v9 = .int .i64 m ∧ 0 ≤ m ∧ m ≤ big ∧ Hid (m = minL big ((ts.take j).map fun c => (shareL (dues l c) sum).getD g 0)) ∧ G W wr) (fun _ v10 _ => ts.length - (intOf v10).toNat)
  case atStart => exact ⟨0, big, by omega, rfl, rfl, by simp [big], by omega, by simp [Hid, minL], G.refl _⟩
  case round =>
    obtain ⟨j, m, hj, rfl, rfl, hm0, hm1, HM, hbr⟩ := hrel
    have gw := hB.trans hbr
    obtain ⟨s0, s1, s2, s3⟩ := K0.out.grow hbr
    by_cases hlt : j < ts.length
    · obtain ⟨b, off, B, cB, rfl, d0, d1, d2⟩ := HT.out.at hlt
      have e0 := gw.cell d0
      have e1 := gw.cell d1
      have hc := HK.out ts[j] (List.getElem_mem hlt)
      have hbd := HBD.out ts[j] hc
      have HS2 : Hid (minL big ((ts.take (j + 1)).map fun c => (shareL (dues l c) sum).getD g 0) = if (shareL (dues l ts[j]) sum).getD g 0 < m then (shareL (dues l ts[j]) sum).getD g 0 else m) := by
        rw [Hid, List.take_succ_eq_append_getElem hlt, List.map_append, HM.out]
        exact minL_snoc _ _ _
      have hgs : g < (shareL (dues l ts[j]) sum).length := by rw [HSL.out]; exact hg
      have hgsl := HSL.out ts[j]
      have hget := getD_of hgs
      have hcall := HO.out ts[j] hc B cB
      have hrow := d2.grow gw
      clear d0 d1 d2 hc
      generalize ts[j] = c at *
      generalize shareL (dues l c) sum = sh at *
      have hji : (j : Int) < ts.length := by omega
      have hgi : (g : Int) < l.gs.length := by omega
      have hbb := big_eq
      have HGT := Lib.hid hget
      clear hget
      go_wp2_with fail
      refine wp_region_A (by as_aux_lemma => kernel_rfl) ?_
      obtain ⟨z, hz⟩ : ∃ z : World, z = { wr with drawn := wr.drawn + 1 } := ⟨_, rfl⟩
      rw [← hz]
      have gz : G wr z := by rw [hz]; exact (G.refl _).drew
      clear hz
      have HS : LBox z w.heap.size l A C cA cC ∧ z.cell? ⟨b, off + j * 2, none⟩ = some (.int .i64 c.r) ∧ z.cell? ⟨b, off + j * 2 + 1, none⟩ = some (.slice B c.bs.length cB) := ⟨(K0.out.grow hbr).grow gz, gz.cell e0, gz.cell e1⟩
      clear s0 s1 s2 s3 e0 e1
      refine wpAny_fork (fun w' => LBox w' w.heap.size l A C cA cC ∧ w'.cell? ⟨b, off + j * 2, none⟩ = some (.int .i64 c.r) ∧ w'.cell? ⟨b, off + j * 2 + 1, none⟩ = some (.slice B c.bs.length cB)) 11 ?_
      refine wpAnyU_takes (i := 0) rfl (by as_aux_lemma => kernel_rfl) (fun _ _ _ _ h => h) HS ?_
      apply Exists.intro
      apply And.intro
      · refine Or.inl (And.intro (by rfl) ?_)
        rintro w ⟨⟨s0, s1, s2, s3⟩, s4, s5⟩
        go_simp
        try rfl
      simp only [Act.put, List.setIfInBounds_toArray, List.set_cons_succ, List.set_cons_zero]
      refine wpAnyU_takes (i := 1) rfl (by as_aux_lemma => kernel_rfl) (fun _ _ _ _ h => h) HS ?_
      apply Exists.intro
      apply And.intro
      · refine Or.inl (And.intro (by rfl) ?_)
        rintro w ⟨⟨s0, s1, s2, s3⟩, s4, s5⟩
        go_simp
        try rfl
      simp only [Act.put, List.setIfInBounds_toArray, List.set_cons_succ, List.set_cons_zero]
      refine wpAnyU_takes (i := 2) rfl (by as_aux_lemma => kernel_rfl) (fun _ _ _ _ h => h) HS ?_
      apply Exists.intro
      apply And.intro
      · refine Or.inl (And.intro (by rfl) ?_)
        rintro w ⟨⟨s0, s1, s2, s3⟩, s4, s5⟩
        go_simp
        try rfl
      simp only [Act.put, List.setIfInBounds_toArray, List.set_cons_succ, List.set_cons_zero]
      refine wpAnyU_takes (i := 3) rfl (by as_aux_lemma => kernel_rfl) (fun _ _ _ _ h => h) HS ?_
      apply Exists.intro
      apply And.intro
      · refine Or.inl (And.intro (by rfl) ?_)
        rintro w ⟨⟨s0, s1, s2, s3⟩, s4, s5⟩
        go_simp
        try rfl
      simp only [Act.put, List.setIfInBounds_toArray, List.set_cons_succ, List.set_cons_zero]
      refine wpAnyU_takes (i := 4) rfl (by as_aux_lemma => kernel_rfl) (fun _ _ _ _ h => h) HS ?_
      apply Exists.intro
      apply And.intro
      · refine Or.inl (And.intro (by rfl) ?_)
        rintro w ⟨⟨s0, s1, s2, s3⟩, s4, s5⟩
        go_simp
        try rfl
      simp only [Act.put, List.setIfInBounds_toArray, List.set_cons_succ, List.set_cons_zero]
      refine wpAnyU_takes (i := 5) rfl (by as_aux_lemma => kernel_rfl) (fun _ _ _ _ h => h) HS ?_
      apply Exists.intro
      apply And.intro
      · refine Or.inl (And.intro (by rfl) ?_)
        rintro w ⟨⟨s0, s1, s2, s3⟩, s4, s5⟩
        go_simp
        try rfl
      simp only [Act.put, List.setIfInBounds_toArray, List.set_cons_succ, List.set_cons_zero]
      refine wpAnyU_takes (i := 6) rfl (by as_aux_lemma => kernel_rfl) (fun _ _ _ _ h => h) HS ?_
      apply Exists.intro
      apply And.intro
      · refine Or.inl (And.intro (by rfl) ?_)
        rintro w ⟨⟨s0, s1, s2, s3⟩, s4, s5⟩
        go_simp
        try rfl
      simp only [Act.put, List.setIfInBounds_toArray, List.set_cons_succ, List.set_cons_zero]
      refine wpAnyU_takes (i := 8) rfl (by as_aux_lemma => kernel_rfl) (fun _ _ _ _ h => h) HS ?_
      apply Exists.intro
      apply And.intro
      · refine Or.inl (And.intro (by rfl) ?_)
        rintro w ⟨⟨s0, s1, s2, s3⟩, s4, s5⟩
        go_simp
        try rfl
      simp only [Act.put, List.setIfInBounds_toArray, List.set_cons_succ, List.set_cons_zero]
      refine wpAnyT_one (i := 7) (by as_aux_lemma => kernel_rfl) rfl ?_
      go_wp2_with fail
      refine (hcall z (gw.trans gz) (hrow.grow gz)).mono ?_
      rintro e w3 ⟨⟨v3, rfl, ho3⟩, hb3⟩
      obtain ⟨A3, c3, rfl, -, hr3⟩ := ho3.row
      obtain ⟨b9, off9, rfl, d9⟩ := hr3.at hgs
      rw [← HGT.out] at d9
      generalize hgv : sh.getD g 0 = y at *
      rw [hgsl]
      clear ho3 hr3 hgv
      go_wp2_with fail
      replace HS : LBox w3 w.heap.size l A C cA cC ∧ w3.cell? ⟨b, off + j * 2, none⟩ = some (.int .i64 c.r) ∧ w3.cell? ⟨b, off + j * 2 + 1, none⟩ = some (.slice B c.bs.length cB) := ⟨HS.1.grow hb3, hb3.cell HS.2.1, hb3.cell HS.2.2⟩
      refine ⟨HS, ?_⟩
      refine wpAnyU_takes (i := 9) rfl (by as_aux_lemma => kernel_rfl) (fun _ _ _ _ h => h) HS ?_
      apply Exists.intro
      apply And.intro
      · refine Or.inl (And.intro (by rfl) ?_)
        rintro w ⟨⟨s0, s1, s2, s3⟩, s4, s5⟩
        go_simp
        try rfl
      simp only [Act.put, List.setIfInBounds_toArray, List.set_cons_succ, List.set_cons_zero]
      refine wpAnyT_one (i := 10) (by as_aux_lemma => kernel_rfl) rfl ?_
      go_wp2_with fail
      refine ⟨HS, ?_⟩
      by_cases hmd : y < m
      all_goals
        refine wpAnyT_close (by as_aux_lemma => kernel_rfl) ?_
        refine wpAny_part (k := 11) (n := 2) (f := 0) rfl rfl (by as_aux_lemma => kernel_rfl) ?_
        simp only [List.drop_succ_cons, List.drop_zero, List.take_succ_cons, List.take_zero]
        go_wp2_with fail
        refine wpAny_done (by as_aux_lemma => kernel_rfl) ?_
        go_wp2_with fail
        go_roundw
        case rel => exact ⟨j + 1, _, by omega, by go_num, rfl, by omega, by omega, (by first | exact (HS2.out.trans (if_pos hmd)).symm | exact (HS2.out.trans (if_neg (by omega))).symm), hbr.trans (gz.trans hb3)⟩
        case measure => simp [intOf]; omega
    · obtain rfl : j = ts.length := by omega
      have HM2 := Lib.hid (show refLeast l ts sum g = m by have h := HM.out; rw [List.take_length] at h; exact h.symm)
      go_wp2_with fail
      go_ret
      exact ⟨ret_i HM2.out.symm, gw⟩

theorem refTruths_nil {l : Led} (hV : Valid l) : refTruths l = [] ↔ truthsL l = [] := by
  have h := (refTruths_perm hV).length_eq
  constructor
  · intro e
    rw [e] at h
    exact List.eq_nil_of_length_eq_zero h.symm
  · intro e
    rw [e] at h
    exact List.eq_nil_of_length_eq_zero h
theorem refTruths_len {l : Led} (hV : Valid l) : (refTruths l).length ≤ 2000 := by
  have h1 : (refTruths l).length ≤ (refCounts l).length := List.length_filter_le _ _
  have h2 : (refCounts l).length = (manyL l).toNat := by simp [refCounts]
  have := manyL_pos hV
  omega
def askT (l : Led) (fine : Bool) : List Cn := if askErr l fine = 0 then refTruths l else []

set_option maxHeartbeats 4000000 in
theorem lawAsked_c {l : Led} {A C : Option Addr} {cA cC : Nat} {sum : Int} {w : World} (hL : LedR w l A C) (hg : l.gs.length ≤ 30) (hc : l.cs.length ≤ 30) :
    Calls Try.prog 37 #[ledV l A C cA cC, .int .i64 sum] w fun e w' => (∃ T cT, e = .returned (.tuple #[.slice T (askT l (inB sum 0 9999)).length cT, .int .i64 (askErr l (inB sum 0 9999))]) ∧ RowK w' T (askT l (inB sum 0 9999))) ∧ G w w' := by
  have HL := Lib.hid hL
  clear hL
  go_enter Try.func37, Try.ntmps37
  go_wp2_with fail
  have k0 := LBox.one (w := w) (l := l) (A := A) (C := C) (cA := cA) (cC := cC)
  have hB : G w (w.alloc (.cells (cells4 l A C cA cC) 27)) := (G.refl _).alloc _
  generalize w.alloc _ = W at *
  have K0 := Lib.hid k0
  clear k0
  refine (fault_c l A C cA cC W (HL.out.grow hB) hg hc).mono ?_
  rintro e w1 ⟨rfl, hb1⟩
  obtain ⟨s0, s1, s2, s3⟩ := K0.out.grow hb1
  have g1 := hB.trans hb1
  by_cases hf : fault l = 0
  · have HV := Lib.hid (valid_of hf)
    have HF := Lib.hid hf
    rw [hf]
    clear hf
    go_wp2_with fail
    refine (In_c _ _ _ _).mono ?_
    rintro e w2 ⟨rfl, rfl⟩
    cases hs : inB sum 0 9999
    · have HE : Hid (askErr l (inB sum 0 9999) = 2 ∧ askT l (inB sum 0 9999) = []) := by
        rw [hs]
        have h : askErr l false = 2 := by unfold askErr; rw [if_pos HF.out]; rfl
        exact ⟨h, by unfold askT; rw [if_neg (by omega)]⟩
      clear hs
      go_wp2_with fail
      go_ret2
      exact ⟨⟨none, 0, by rw [HE.out.1, HE.out.2]; rfl, by rw [HE.out.2]; intro j c h; simp at h⟩, g1⟩
    · have HSS := Lib.hid hs
      clear hs
      go_wp2_with fail
      refine (Truths_c HV.out (HL.out.grow g1)).mono ?_
      rintro e w3 ⟨⟨T, cT, rfl, hT⟩, hb3⟩
      have HT := Lib.hid hT
      clear hT
      by_cases hn : refTruths l = []
      · have HE : Hid (askErr l (inB sum 0 9999) = 11 ∧ askT l (inB sum 0 9999) = []) := by
          rw [HSS.out]
          have h : askErr l true = 11 := by unfold askErr; rw [if_pos HF.out, if_pos rfl, if_pos ((refTruths_nil HV.out).1 hn)]
          exact ⟨h, by unfold askT; rw [if_neg (by omega)]⟩
        have hl0 : (refTruths l).length = 0 := by rw [hn]; rfl
        rw [hl0]
        clear hn hl0
        go_wp2_with fail
        go_ret2
        exact ⟨⟨none, 0, by rw [HE.out.1, HE.out.2]; rfl, by rw [HE.out.2]; intro j c h; simp at h⟩, g1.trans hb3⟩
      · have HE : Hid (askErr l (inB sum 0 9999) = 0 ∧ askT l (inB sum 0 9999) = refTruths l) := by
          rw [HSS.out]
          have h : askErr l true = 0 := by unfold askErr; rw [if_pos HF.out, if_pos rfl, if_neg (fun e => hn ((refTruths_nil HV.out).2 e))]
          exact ⟨h, by unfold askT; rw [if_pos h]⟩
        have hlp : (((refTruths l).length : Int) == 0) = false := by
          have : (refTruths l).length ≠ 0 := fun e => hn (List.eq_nil_of_length_eq_zero e)
          simp
          omega
        clear hn
        generalize hts : refTruths l = ts at *
        have HTS := Lib.hid hts
        clear hts
        go_wp2_with fail
        go_ret2
        exact ⟨⟨T, cT, by rw [HE.out.1, HE.out.2]; rfl, by rw [HE.out.2]; exact HT.out⟩, g1.trans hb3⟩
  · have HE : Hid (askErr l (inB sum 0 9999) = fault l ∧ askT l (inB sum 0 9999) = []) := by
      have h : askErr l (inB sum 0 9999) = fault l := by unfold askErr; rw [if_neg hf]
      exact ⟨h, by unfold askT; rw [if_neg (by rw [h]; exact hf)]⟩
    have hfb : (fault l != 0) = true := by simp [hf]
    clear hf
    go_wp2_with fail
    go_ret2
    exact ⟨⟨none, 0, by rw [HE.out.1, HE.out.2]; rfl, by rw [HE.out.2]; intro j c h; simp at h⟩, g1⟩

set_option maxHeartbeats 4000000 in
theorem sure_c {l : Led} {A C : Option Addr} {cA cC : Nat} {w : World} (hL : LedR w l A C) (hg : l.gs.length ≤ 30) (hc : l.cs.length ≤ 30) :
    Calls Try.prog 26 #[ledV l A C cA cC] w fun e w' => (∃ T cT, e = .returned (.tuple #[.slice T (askT l true).length cT, .int .i64 (askErr l true)]) ∧ RowK w' T (askT l true)) ∧ G w w' := by
  have HL := Lib.hid hL
  have hA := fun (w1 : World) (h : G w w1) => lawAsked_c (sum := 0) (cA := cA) (cC := cC) (hL.grow h) hg hc
  rw [inB_zero] at hA
  have HA := Lib.hid hA
  clear hL hA
  go_enter Try.func26, Try.ntmps26
  go_wp2_with fail
  have hB : G w (w.alloc (.cells (cells4 l A C cA cC) 27)) := (G.refl _).alloc _
  generalize w.alloc _ = W at *
  refine (HA.out W hB).mono ?_
  rintro e w1 ⟨⟨T, cT, rfl, hT⟩, hb1⟩
  have HT := Lib.hid hT
  clear hT
  go_wp2_with fail
  go_ret2
  exact ⟨⟨T, cT, rfl, HT.out⟩, hB.trans hb1⟩
end Go.Proofs.Ytogdhkecpjndlaa.C

/- Plain: over the truths, in whatever order, the reference's numbers are the program's. -/
namespace Go.Proofs.Ytogdhkecpjndlaa.C

theorem minL_le' : ∀ (xs : List Int) (m : Int), minL m xs ≤ m ∧ ∀ x ∈ xs, minL m xs ≤ x
  | [], m => by simp [minL]
  | x :: xs, m => by
    have := minL_le' xs (if x < m then x else m)
    rw [minL]
    refine ⟨?_, fun y hy => ?_⟩
    · have h := this.1
      split at h <;> split <;> omega
    · rcases List.mem_cons.1 hy with rfl | hy
      · have h := this.1
        split at h <;> split <;> omega
      · exact this.2 y hy
theorem boundsF_eq (q : Cn → Int) : ∀ (ts : List Cn) (a b : Int), boundsF q (a, b) ts = (minL a (ts.map q), maxL b (ts.map q))
  | [], a, b => rfl
  | c :: cs, a, b => by
    show boundsF q (widen (a, b) (q c)) cs = _
    rw [show widen (a, b) (q c) = (if q c < a then q c else a, if b < q c then q c else b) from rfl, boundsF_eq q cs]
    rfl
/-- The least of some numbers, whatever their order. -/
theorem least_unique {xs ys : List Int} {a b : Int} (h : ∀ x, x ∈ xs ↔ x ∈ ys) (ha : a ∈ xs) (hb : b ∈ ys) (ha2 : ∀ x ∈ xs, a ≤ x) (hb2 : ∀ x ∈ ys, b ≤ x) : a = b := by
  have h1 := ha2 b ((h b).2 hb)
  have h2 := hb2 a ((h a).1 ha)
  omega
theorem most_unique {xs ys : List Int} {a b : Int} (h : ∀ x, x ∈ xs ↔ x ∈ ys) (ha : a ∈ xs) (hb : b ∈ ys) (ha2 : ∀ x ∈ xs, x ≤ a) (hb2 : ∀ x ∈ ys, x ≤ b) : a = b := by
  have h1 := ha2 b ((h b).2 hb)
  have h2 := hb2 a ((h a).1 ha)
  omega
theorem minL_inside {xs : List Int} {m : Int} (hne : xs ≠ []) (h : ∀ x ∈ xs, x ≤ m) : minL m xs ∈ xs := by
  rcases List.mem_cons.1 (minL_mem xs m) with h1 | h1
  · cases xs with
    | nil => exact absurd rfl hne
    | cons x xs =>
      have h2 := (minL_le' (x :: xs) m).2 x (by simp)
      have h3 := h x (by simp)
      rw [h1] at h2 ⊢
      have : m = x := by omega
      rw [this]
      simp
  · exact h1
theorem maxL_inside {xs : List Int} {m : Int} (hne : xs ≠ []) (h : ∀ x ∈ xs, m ≤ x) : maxL m xs ∈ xs := by
  rcases List.mem_cons.1 (maxL_mem xs m) with h1 | h1
  · cases xs with
    | nil => exact absurd rfl hne
    | cons x xs =>
      have h2 := (maxL_ge' (x :: xs) m).2 x (by simp)
      have h3 := h x (by simp)
      rw [h1] at h2 ⊢
      have : m = x := by omega
      rw [this]
      simp
  · exact h1
theorem minL_perm {xs ys : List Int} {m n : Int} (h : xs.Perm ys) (hne : xs ≠ []) (hm : ∀ x ∈ xs, x ≤ m) (hn : ∀ x ∈ ys, x ≤ n) : minL m xs = minL n ys := by
  have hne2 : ys ≠ [] := fun e => by rw [e] at h; exact hne h.eq_nil
  exact least_unique (fun x => h.mem_iff) (minL_inside hne hm) (minL_inside hne2 hn) (minL_le' xs m).2 (minL_le' ys n).2
theorem maxL_perm {xs ys : List Int} {m n : Int} (h : xs.Perm ys) (hne : xs ≠ []) (hm : ∀ x ∈ xs, m ≤ x) (hn : ∀ x ∈ ys, n ≤ x) : maxL m xs = maxL n ys := by
  have hne2 : ys ≠ [] := fun e => by rw [e] at h; exact hne h.eq_nil
  exact most_unique (fun x => h.mem_iff) (maxL_inside hne hm) (maxL_inside hne2 hn) (maxL_ge' xs m).2 (maxL_ge' ys n).2
theorem minL_head {x : Int} {xs : List Int} : minL x (x :: xs) = minL x xs := by rw [minL, if_neg (by omega)]
theorem maxL_head {x : Int} {xs : List Int} : maxL x (x :: xs) = maxL x xs := by rw [maxL, if_neg (by omega)]
/-- From the head on, the least is in the list. -/
theorem minL_head_mem (x : Int) (xs : List Int) : minL x (x :: xs) ∈ x :: xs := by rw [minL_head]; exact minL_mem xs x
theorem maxL_head_mem (x : Int) (xs : List Int) : maxL x (x :: xs) ∈ x :: xs := by rw [maxL_head]; exact maxL_mem xs x

theorem boundsL_perm {q : Cn → Int} {ts ps : List Cn} (h : ts.Perm ps) (hne : ps ≠ []) (hb : ∀ c ∈ ts, -big ≤ q c ∧ q c ≤ big) : boundsL q ps = refB q ts := by
  cases ps with
  | nil => exact absurd rfl hne
  | cons p ps =>
    have hm := h.map q
    have htne : ts.map q ≠ [] := fun e => by rw [e] at hm; have := hm.symm.eq_nil; simp at this
    rw [boundsL, boundsF_eq]
    show _ = boundsF q (big, -big) ts
    rw [boundsF_eq]
    have hbt : ∀ x ∈ ts.map q, -big ≤ x ∧ x ≤ big := fun x hx => by
      obtain ⟨c, hc, rfl⟩ := List.mem_map.1 hx
      exact hb c hc
    refine Prod.ext ?_ ?_
    · exact (least_unique (fun x => hm.mem_iff) (minL_inside htne (fun x hx => (hbt x hx).2)) (minL_head_mem _ _) (minL_le' _ _).2 (minL_le' _ _).2).symm
    · exact (most_unique (fun x => hm.mem_iff) (maxL_inside htne (fun x hx => (hbt x hx).1)) (maxL_head_mem _ _) (maxL_ge' _ _).2 (maxL_ge' _ _).2).symm

/-- What is known when there is a truth. -/
theorem truth_facts {l : Led} (h : askErr l true = 0) : Valid l ∧ (refTruths l).Perm (truthsL l) ∧ truthsL l ≠ [] ∧ refTruths l ≠ [] ∧ (∀ c ∈ refTruths l, CntOk l c) ∧ askT l true = refTruths l := by
  obtain ⟨hf, hne⟩ := askErr_zero h
  have hV := valid_of hf
  have hp := refTruths_perm hV
  refine ⟨hV, hp, hne, fun e => hne ((refTruths_nil hV).1 e), fun c hc => truth_ok hV (hp.mem_iff.1 hc), by unfold askT; rw [if_pos h]⟩

theorem bounds_ref {l : Led} (h : askErr l true = 0) (k : Nat) : dueB l k = refB (fun c => owed l c k) (refTruths l) := by
  obtain ⟨hV, hp, hne, -, hK, -⟩ := truth_facts h
  exact boundsL_perm hp hne (fun c hc => by have := owed_bd hV (hK c hc) k; have := big_eq; omega)
theorem rate_ref {l : Led} (h : askErr l true = 0) : rateL l = refB (fun c => c.r) (refTruths l) := by
  obtain ⟨hV, hp, hne, -, hK, -⟩ := truth_facts h
  unfold rateL
  rw [if_pos h]
  exact boundsL_perm hp hne (fun c hc => by have := (hK c hc).r0; have := (hK c hc).r1; have := big_eq; omega)
theorem countP_all {p : Cn → Bool} : ∀ {ts : List Cn}, ts.countP p = ts.length ↔ ∀ c ∈ ts, p c = true := by
  intro ts
  exact List.countP_eq_length
theorem clear_ref {l : Led} (h : askErr l true = 0) (k : Nat) : verdict (dueB l k) = refClear l (refTruths l) k := by
  obtain ⟨hV, hp, hne, htn, hK, -⟩ := truth_facts h
  rw [bounds_ref h k]
  show verdict (boundsF (fun c => owed l c k) (big, -big) (refTruths l)) = _
  rw [boundsF_eq]
  generalize refTruths l = ts at *
  have hmn : ts.map (fun c => owed l c k) ≠ [] := fun e => htn (List.map_eq_nil_iff.1 e)
  have hb : ∀ x ∈ ts.map (fun c => owed l c k), -big ≤ x ∧ x ≤ big := fun x hx => by
    obtain ⟨c, hc, rfl⟩ := List.mem_map.1 hx
    have := owed_bd hV (hK c hc) k
    have := big_eq
    omega
  have h1 := minL_inside hmn (fun x hx => (hb x hx).2)
  have h2 := maxL_inside hmn (fun x hx => (hb x hx).1)
  have h3 := (minL_le' (ts.map (fun c => owed l c k)) big).2
  have h4 := (maxL_ge' (ts.map (fun c => owed l c k)) (-big)).2
  generalize minL big (ts.map fun c => owed l c k) = mn at *
  generalize maxL (-big) (ts.map fun c => owed l c k) = mx at *
  obtain ⟨c1, hc1, e1⟩ := List.mem_map.1 h1
  obtain ⟨c2, hc2, e2⟩ := List.mem_map.1 h2
  unfold verdict refClear cntC
  show (if 0 ≤ mn then (1 : Int) else if mx < 0 then 2 else 3) = _
  by_cases ha : 0 ≤ mn
  · have hy : List.countP (fun c => decide (0 ≤ owed l c k)) ts = ts.length := countP_all.2 (fun c hc => by have := h3 _ (List.mem_map.2 ⟨c, hc, rfl⟩); simp; omega)
    rw [if_pos ha, if_pos hy]
  · have hy : ¬ List.countP (fun c => decide (0 ≤ owed l c k)) ts = ts.length := fun e => by have := countP_all.1 e c1 hc1; simp at this; omega
    rw [if_neg ha, if_neg hy]
    by_cases hb2 : mx < 0
    · have hz : List.countP (fun c => decide (0 ≤ owed l c k)) ts = 0 := List.countP_eq_zero.2 (fun c hc => by have := h4 _ (List.mem_map.2 ⟨c, hc, rfl⟩); simp; omega)
      rw [if_pos hb2, if_pos hz]
    · have hz : ¬ List.countP (fun c => decide (0 ≤ owed l c k)) ts = 0 := fun e => by have := List.countP_eq_zero.1 e c2 hc2; simp at this; omega
      rw [if_neg hb2, if_neg hz]
theorem full_ref {l : Led} (h : askErr l true = 0) : fullL l = refWhole l (refTruths l) := by
  obtain ⟨hV, hp, hne, htn, hK, -⟩ := truth_facts h
  unfold fullL refWhole
  rw [if_pos h, boundsL_perm hp hne (fun c hc => by have := total_bd hV (hK c hc); have := big_eq; omega)]
  show (boundsF _ (big, -big) (refTruths l)).2 = _
  rw [boundsF_eq]
  have hmn : (refTruths l).map (fun c => totalFrom 0 (dues l c)) ≠ [] := fun e => htn (List.map_eq_nil_iff.1 e)
  have hb : ∀ x ∈ (refTruths l).map (fun c => totalFrom 0 (dues l c)), 0 ≤ x := fun x hx => by
    obtain ⟨c, hc, rfl⟩ := List.mem_map.1 hx
    exact (total_bd hV (hK c hc)).1
  exact maxL_perm (List.Perm.refl _) hmn (fun x hx => by have := hb x hx; have := big_eq; omega) hb

theorem zipMin_at {out sh : List Int} {k : Nat} (hk : k < out.length) : (zipMin out sh).getD k 0 = min2 (out.getD k 0) (sh.getD k 0) := by
  unfold zipMin minTo
  simp [List.getD, hk]
theorem leastG_at {l : Led} {sum : Int} {k : Nat} (hk : k < l.gs.length) : ∀ (cs : List Cn) (out : List Int), out.length = l.gs.length → (leastG l sum out cs).getD k 0 = minL (out.getD k 0) (cs.map fun c => (shareL (dues l c) sum).getD k 0) ∧ (leastG l sum out cs).length = l.gs.length
  | [], out, ho => ⟨rfl, ho⟩
  | c :: cs, out, ho => by
    have h := leastG_at (sum := sum) hk cs (zipMin out (shareL (dues l c) sum)) (by rw [zipMin_len, ho])
    have hg : leastG l sum out (c :: cs) = leastG l sum (zipMin out (shareL (dues l c) sum)) cs := rfl
    rw [hg]
    refine ⟨?_, h.2⟩
    rw [h.1, zipMin_at (by rw [ho]; exact hk), List.map_cons, minL]
    rfl
theorem least_ref {l : Led} {sum : Int} (h : askErr l true = 0) (h0 : 0 ≤ sum) {k : Nat} (hk : k < l.gs.length) : (leastM l sum (truthsL l)).getD k 0 = refLeast l (refTruths l) sum k ∧ (leastM l sum (truthsL l)).length = l.gs.length := by
  obtain ⟨hV, hp, hne, htn, hK, -⟩ := truth_facts h
  have hps : ∀ c ∈ truthsL l, CntOk l c := fun c hc => truth_ok hV hc
  generalize truthsL l = ps at *
  cases ps with
  | nil => exact absurd rfl hne
  | cons p ps =>
    have hs := leastG_at (sum := sum) hk ps (shareL (dues l p) sum) (by rw [shareL_len, dues_len])
    refine ⟨?_, hs.2⟩
    show (leastG l sum (shareL (dues l p) sum) ps).getD k 0 = _
    rw [hs.1]
    have hm := hp.map (fun c => (shareL (dues l c) sum).getD k 0)
    have hmn : (refTruths l).map (fun c => (shareL (dues l c) sum).getD k 0) ≠ [] := fun e => htn (List.map_eq_nil_iff.1 e)
    unfold refLeast
    refine (least_unique (fun x => hm.mem_iff) (minL_inside hmn (fun x hx => ?_)) ?_ (minL_le' _ _).2 ?_).symm
    · obtain ⟨c, hc, rfl⟩ := List.mem_map.1 hx
      have hgd : k < (dues l c).length := by rw [dues_len]; exact hk
      have h2 := share_bd (ds := dues l c) h0 hgd
      have h3 := dues_bd hV (hK c hc) ((dues l c).getD k 0) (by rw [getD_of hgd]; exact List.getElem_mem _)
      have h4 : pos ((dues l c).getD k 0) ≤ 1000000 := by unfold pos; split <;> omega
      have := big_eq
      omega
    · rw [List.map_cons]
      exact minL_mem _ _
    · rw [List.map_cons]
      intro x hx
      rcases List.mem_cons.1 hx with rfl | hx
      · exact (minL_le' _ _).1
      · exact (minL_le' _ _).2 x hx

theorem cntF_ref {l : Led} {ts ps : List Cn} (hp : ts.Perm ps) {g n : Nat} (hg : g < l.gs.length) : cntF ps l.gs.length g n = (cntB ts g n : Int) := by
  unfold cntF cntB cntC
  rw [if_pos (by omega), List.countP_eq_length_filter, ((hp.filter _).length_eq)]
  rw [show (g : Int).toNat = g by omega]
theorem leaves_ref {l : Led} {ts ps : List Cn} (hp : ts.Perm ps) {g : Nat} (hg : g < l.gs.length) : leavesV ps l.gs.length g = (refLeaves ts g : Int) := by
  have aux : ∀ n : Nat, maxL 0 ((List.range n).map fun (v : Nat) => cntF ps l.gs.length g v) = (refLeavesTo ts g n : Int) := by
    intro n
    induction n with
    | zero => rfl
    | succ n ih =>
      rw [List.range_succ, List.map_append, List.map_cons, List.map_nil, maxL_snoc, ih, cntF_ref hp hg, refLeavesTo]
      split <;> omega
  exact aux 10
theorem ask_spec (ts : List Cn) : ∀ i : Nat, (refAskTo ts i).1 ≤ i ∧ (refAskTo ts i).2 = refLeaves ts (refAskTo ts i).1 ∧ (∀ j, j ≤ i → (refAskTo ts i).2 ≤ refLeaves ts j) ∧ ∀ j, j < (refAskTo ts i).1 → refLeaves ts j ≠ (refAskTo ts i).2
  | 0 => by
    refine ⟨Nat.le_refl _, rfl, fun j hj => ?_, fun j hj => ?_⟩
    · obtain rfl : j = 0 := by omega
      exact Nat.le_refl _
    · simp [refAskTo] at hj
  | i + 1 => by
    obtain ⟨h1, h2, h3, h4⟩ := ask_spec ts i
    rw [refAskTo]
    split
    · rename_i hlt
      refine ⟨Nat.le_refl _, rfl, fun j hj => ?_, fun j hj e => ?_⟩
      · rcases Nat.lt_succ_iff_lt_or_eq.1 (Nat.lt_succ_of_le hj) with h | rfl
        · have := h3 j (by omega)
          simp only []
          omega
        · exact Nat.le_refl _
      · simp only [] at hj e
        have := h3 j (by omega)
        omega
    · rename_i hge
      refine ⟨by omega, h2, fun j hj => ?_, h4⟩
      rcases Nat.lt_succ_iff_lt_or_eq.1 (Nat.lt_succ_of_le hj) with h | rfl
      · exact h3 j (by omega)
      · omega
theorem ask_ref {l : Led} (h : askErr l true = 0) (hn : 0 < l.gs.length) : askL l = (((refAskTo (refTruths l) (l.gs.length - 1)).1 : Int), ((refAskTo (refTruths l) (l.gs.length - 1)).2 : Int), 0) := by
  obtain ⟨hV, hp, hne, htn, hK, -⟩ := truth_facts h
  have hs := ask_spec (refTruths l) (l.gs.length - 1)
  obtain ⟨a, m, hra⟩ : ∃ a m, refAskTo (refTruths l) (l.gs.length - 1) = (a, m) := ⟨_, _, rfl⟩
  rw [hra] at hs ⊢
  simp only [] at hs ⊢
  obtain ⟨h1, h2, h3, h4⟩ := hs
  have hlen : (mostL l).length = l.gs.length := by simp [mostL]
  have hat : ∀ j, j < l.gs.length → (mostL l)[j]? = some (refLeaves (refTruths l) j : Int) := fun j hj => by
    unfold mostL
    simp [hj, leaves_ref hp hj]
  have hmn : mostL l ≠ [] := fun e => by rw [e] at hlen; simp at hlen; omega
  have hmin : minOf (mostL l) = (m : Int) := by
    have hmem : ∀ x ∈ mostL l, (m : Int) ≤ x := fun x hx => by
      obtain ⟨j, hj, rfl⟩ := List.getElem_of_mem hx
      have := hat j (by omega)
      rw [List.getElem?_eq_getElem hj] at this
      simp only [Option.some.injEq] at this
      have := h3 j (by omega)
      omega
    have hmi : (m : Int) ∈ mostL l := by
      have := hat a (by omega)
      rw [← h2] at this
      exact List.mem_of_getElem? this
    cases hxs : mostL l with
    | nil => exact absurd hxs hmn
    | cons x xs =>
      rw [hxs] at hmem hmi
      show minL x xs = m
      rw [← minL_head]
      exact least_unique (fun y => Iff.rfl) (minL_head_mem x xs) hmi (minL_le' _ _).2 hmem
  obtain ⟨j, hj, hjm, hjf⟩ := idx_spec (mostL l) (m : Int) 0 (by
    have := hat a (by omega)
    rw [← h2] at this
    exact List.mem_of_getElem? this)
  have hja : j = a := by
    have hjl : j < l.gs.length := by rw [← hlen]; exact (List.getElem?_eq_some_iff.1 hjm).1
    rcases Nat.lt_trichotomy j a with hlt | heq | hgt
    · have := hat j hjl
      rw [hjm] at this
      simp only [Option.some.injEq] at this
      exact absurd (by omega) (h4 j hlt)
    · exact heq
    · have := hat a (by omega)
      rw [← h2] at this
      exact absurd this (hjf a hgt)
  subst hja
  unfold askL
  rw [if_pos h, if_neg (by omega), hmin, hj]
  have : (0 + (j : Int)).toNat = j := by omega
  rw [this]
  simp [List.getD, hjm]
end Go.Proofs.Ytogdhkecpjndlaa.C
