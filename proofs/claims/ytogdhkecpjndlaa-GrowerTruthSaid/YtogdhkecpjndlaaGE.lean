/- Texts joined: M1 C21 C22 C23 C24 P3. -/
import Derived.Test.YtogdhkecpjndlaaGC
import Derived.Test.YtogdhkecpjndlaaGD
set_option linter.unusedSimpArgs false
set_option linter.unusedVariables false
/- The range over the map of spots. -/
namespace Go.Proofs.Ytogdhkecpjndlaa.C
open Go.RowKit Go.WideMaps Go.Maps Go.WideElems Go.ChangeMaps
set_option maxRecDepth 100000

/-- A range over the map of spots under way. -/
def RangeM (w : World) (b r : Nat) (f : Int → Int → Int) (ng : Nat) (left : Int → Int → Bool) (cnt : Nat) : Prop :=
  ∃ (D : DataW Unit) (n : Nat) (L : Lit → Bool), w.ranges Try.prog 123 (plainElem Try.prog 3) b r n D L cnt ∧ (∀ g v, Fits g → Fits v → D.atKey (spotKey g v) (.lit (.int .i64 0)) = .lit (.int .i64 (f g v))) ∧
    (∀ g v, Fits g → Fits v → L (spotKey g v) = left g v) ∧ (∀ kl, L kl = true → ∃ g v, kl = spotKey g v ∧ 0 ≤ g ∧ g < ng ∧ Fits g ∧ Fits v)

theorem SpotM.range {w : World} {b n ng : Nat} {f : Int → Int → Int} (h : SpotM w b n f ng) :
    ∃ w' left cnt, (Instr.range 119 (.map (some b))).run Try.prog w = .ok (.pointer (some ⟨w.heap.size, 0, none⟩)) w' ∧ RangeM w' b w.heap.size f ng left cnt ∧ w.grownBy w' none ∧ w'.heap.size = w.heap.size + 1 ∧ (∀ g v, Fits g → Fits v → left g v = false → f g v = 0) := by
  obtain ⟨D, h1, h2, h3⟩ := h
  obtain ⟨w', hrun, hr, hg, hz⟩ := h1.range keyed und119
  refine ⟨w', fun g v => Maps.has D (spotKey g v), _, hrun, ⟨D, n, _, hr, h2, fun _ _ _ _ => rfl, h3⟩, hg, hz, fun g v hgf hvf hl => ?_⟩
  have h4 := h2 g v hgf hvf
  obtain ⟨es, rfl, -⟩ := h1.entries keyed
  have hn : es.find? (fun p => p.1.sameKey (spotKey g v)) = none := by
    rw [List.find?_eq_none]
    intro p hp hs
    have : Maps.has (DataW.map es) (spotKey g v) = true := List.any_eq_true.2 ⟨p, hp, hs⟩
    rw [show Maps.has (DataW.map es) (spotKey g v) = false from hl] at this
    exact absurd this (by simp)
  unfold DataW.atKey at h4
  dsimp only at h4
  rw [hn] at h4
  injection h4 with h4
  injection h4 with _ h4
  exact h4.symm
theorem RangeM.left_eq {w : World} {b r ng cnt : Nat} {f : Int → Int → Int} {left : Int → Int → Bool} (h : RangeM w b r f ng left cnt) : w.rangeLeft b r = cnt := by
  obtain ⟨D, n, L, h1, -⟩ := h
  exact h1.left_eq
theorem RangeM.lt {w : World} {b r ng cnt : Nat} {f : Int → Int → Int} {left : Int → Int → Bool} (h : RangeM w b r f ng left cnt) : b < w.heap.size ∧ r < w.heap.size := by
  obtain ⟨D, n, L, h1, -⟩ := h
  exact ⟨h1.owns.lt, h1.lt⟩
theorem RangeM.kept {w w' : World} {b r ng cnt : Nat} {f : Int → Int → Int} {left : Int → Int → Bool} (h : RangeM w b r f ng left cnt) {row : Option Nat} (hg : w.grownBy w' row) (hb : some b ≠ row) (hr : some r ≠ row) : RangeM w' b r f ng left cnt := by
  obtain ⟨D, n, L, h1, h2⟩ := h
  exact ⟨D, n, L, h1.kept hg hb hr, h2⟩
theorem RangeM.next {w : World} {b r ng cnt : Nat} {f : Int → Int → Int} {left : Int → Int → Bool} (h : RangeM w b r f ng left cnt) (ty : TypeId) :
    (cnt = 0 ∧ (∀ g v, Fits g → Fits v → left g v = false) ∧ (Instr.next (.pointer (some ⟨r, 0, none⟩)) false ty).run Try.prog w = .ok (.tuple #[.bool false]) w) ∨
    ∃ (g v : Int) (w' : World) (cnt' : Nat) (left' : Int → Int → Bool), 0 ≤ g ∧ g < (ng : Int) ∧ Fits g ∧ Fits v ∧ (Instr.next (.pointer (some ⟨r, 0, none⟩)) false ty).run Try.prog w = .ok (.tuple #[.bool true, spot g v, .int .i64 (f g v)]) w' ∧
      (Instr.entry (.pointer (some ⟨r, 0, none⟩))).run Try.prog w' = .ok (.tuple #[spot g v, .int .i64 (f g v)]) w' ∧ RangeM w' b r f ng left' cnt' ∧ cnt' < cnt ∧ w.grownBy w' (some r) ∧
      (∀ g' v', Fits g' → Fits v' → left' g' v' = false → left g' v' = false ∨ (g' = g ∧ v' = v)) := by
  obtain ⟨D, n, L, h1, h2, h3, h4⟩ := h
  rcases h1.next keyed ty with ⟨h0, hl, hrun⟩ | ⟨key, v, kl, y, w', cnt', hkey, hlk, hv, hat, hrun, hrg, hlt, hgr, hsz, hen⟩
  · exact .inl ⟨h0, fun g v hg hv => by rw [← h3 g v hg hv]; exact hl _, hrun⟩
  · obtain ⟨g, v0, rfl, hg, hv0, rfl⟩ := spot_inv hkey
    obtain ⟨g1, v1, e1, hg0, hg1, hgf, hvf⟩ := h4 _ hlk
    obtain ⟨rfl, rfl⟩ := spotKey_inj hg hv0 hgf hvf e1
    obtain ⟨c, rfl, rfl, hc⟩ := plainElem_int_inv und3 hv
    have hcf : c = f g v0 := by
      have := h2 g v0 hg hv0
      rw [hat] at this
      injection this with this
      injection this with _ this
    subst hcf
    refine .inr ⟨g, v0, w', cnt', fun g' v' => left g' v' && !((spotKey g' v').sameKey (spotKey g v0)), hg0, hg1, hg, hv0, hrun, hen, ⟨D, n, _, hrg, h2, fun g' v' hg' hv' => by rw [h3 g' v' hg' hv'], fun kl hk => h4 kl (by simp only [Bool.and_eq_true] at hk; exact hk.1)⟩, hlt, hgr, fun g' v' hg' hv' hl => ?_⟩
    simp only [Bool.and_eq_false_iff, Bool.not_eq_false'] at hl
    rcases hl with hl | hl
    · exact .inl hl
    · exact .inr (spotKey_inj hg' hv' hg hv0 (WideAt.sameKey_eq hl))
end Go.Proofs.Ytogdhkecpjndlaa.C

/- The grower to count. -/
namespace Go.Proofs.Ytogdhkecpjndlaa.C
open Go.RowKit
set_option maxRecDepth 100000

theorem maxL_ge' : ∀ (xs : List Int) (m : Int), m ≤ maxL m xs ∧ ∀ x ∈ xs, x ≤ maxL m xs
  | [], m => ⟨Int.le_refl _, by simp⟩
  | x :: xs, m => by
    rw [maxL]
    by_cases hc : m < x
    · rw [if_pos hc]
      have h := maxL_ge' xs x
      refine ⟨by have := h.1; omega, fun y hy => ?_⟩
      rcases List.mem_cons.1 hy with rfl | hy
      · exact h.1
      · exact h.2 y hy
    · rw [if_neg hc]
      have h := maxL_ge' xs m
      refine ⟨h.1, fun y hy => ?_⟩
      rcases List.mem_cons.1 hy with rfl | hy
      · have := h.1; omega
      · exact h.2 y hy
theorem maxL_mem' : ∀ (xs : List Int) (m : Int), maxL m xs = m ∨ maxL m xs ∈ xs
  | [], m => .inl rfl
  | x :: xs, m => by
    rw [maxL]
    by_cases hc : m < x
    · rw [if_pos hc]
      rcases maxL_mem' xs x with h | h
      · exact .inr (by rw [h]; simp)
      · exact .inr (by simp [h])
    · rw [if_neg hc]
      rcases maxL_mem' xs m with h | h
      · exact .inl h
      · exact .inr (by simp [h])
/-- What a count of a grower's bundles leaves. -/
def leavesV (ts : List Cn) (ng : Nat) (g : Nat) : Int := maxL 0 ((List.range 10).map fun (v : Nat) => cntF ts ng g v)
def mostL (l : Led) : List Int := (List.range l.gs.length).map (leavesV (truthsL l) l.gs.length)
def minOf : List Int → Int
  | [] => 0
  | x :: xs => minL x xs
def askL (l : Led) : Int × Int × Int := if askErr l true = 0 then (if l.gs.length = 0 then (0, 0, 7) else (idx (minOf (mostL l)) (mostL l) 0, (mostL l).getD (idx (minOf (mostL l)) (mostL l) 0).toNat 0, 0)) else (0, 0, askErr l true)

theorem cntF_out {ts : List Cn} {ng g : Nat} {v : Int} (h : ∀ c ∈ ts, 0 ≤ c.b g ∧ c.b g ≤ 9) (hv : ¬ (0 ≤ v ∧ v ≤ 9)) : cntF ts ng g v = 0 := by
  unfold cntF
  split
  · have : (ts.filter fun c => decide (c.b (g : Int).toNat = v)) = [] := by
      rw [List.filter_eq_nil_iff]
      intro c hc
      have := h c hc
      simp
      omega
    rw [this]
    rfl
  · rfl
theorem most_eq {ts : List Cn} {ng g : Nat} {m : Int} (h : ∀ c ∈ ts, 0 ≤ c.b g ∧ c.b g ≤ 9) (h1 : ∀ v, Fits v → cntF ts ng g v ≤ m) (h2 : m = 0 ∨ ∃ v, m = cntF ts ng g v) : m = leavesV ts ng g := by
  unfold leavesV
  have hge := maxL_ge' ((List.range 10).map fun (v : Nat) => cntF ts ng g v) 0
  have h3 : ∀ v, cntF ts ng g v ≤ maxL 0 ((List.range 10).map fun (v : Nat) => cntF ts ng g v) := fun v => by
    by_cases hv : 0 ≤ v ∧ v ≤ 9
    · refine hge.2 _ (List.mem_map.2 ⟨v.toNat, List.mem_range.2 (by omega), by rw [Int.toNat_of_nonneg hv.1]⟩)
    · rw [cntF_out h hv]; exact hge.1
  have h4 : m ≤ maxL 0 ((List.range 10).map fun (v : Nat) => cntF ts ng g v) := by
    rcases h2 with h2 | ⟨v, h2⟩
    · rw [h2]; exact hge.1
    · rw [h2]; exact h3 v
  have h5 : maxL 0 ((List.range 10).map fun (v : Nat) => cntF ts ng g v) ≤ m := by
    rcases maxL_mem' ((List.range 10).map fun (v : Nat) => cntF ts ng g v) 0 with h6 | h6
    · rw [h6]
      have := h1 0 (fits_small (by omega))
      have := cntF_bd ts ng g 0
      omega
    · obtain ⟨v, hv, hve⟩ := List.mem_map.1 h6
      rw [← hve]
      exact h1 v (fits_small (by have := List.mem_range.1 hv; omega))
  omega

theorem MinN_c (A : Option Addr) (xs : List Int) (n c : Nat) (w : World) (hn : n = xs.length) (hp : xs ≠ []) (hX : RowI w A xs) (hm : xs.length ≤ 1000000) :
    Calls Try.prog 76 #[.slice A n c] w fun e w' => e = .returned (.int .i64 (minOf xs)) ∧ w = w' := by
  subst hn
  cases xs with
  | nil => exact absurd rfl hp
  | cons x xs => exact Min_c A x xs c w hX (by simp at hm; omega)
theorem minL_mem : ∀ (xs : List Int) (m : Int), minL m xs ∈ m :: xs
  | [], m => by simp [minL]
  | x :: xs, m => by
    rw [minL]
    split
    · exact List.mem_cons_of_mem _ (minL_mem xs x)
    · rcases List.mem_cons.1 (minL_mem xs m) with h | h
      · exact List.mem_cons.2 (.inl h)
      · exact List.mem_cons_of_mem _ (List.mem_cons_of_mem _ h)

set_option maxHeartbeats 8000000 in
theorem Ask_c (l : Led) (A C : Option Addr) (cA cC : Nat) (w : World) (hL : LedR w l A C) (hg : l.gs.length ≤ 30) (hc : l.cs.length ≤ 30) :
    Calls Try.prog 25 #[ledV l A C cA cC] w fun e w' => e = .returned (.tuple #[.int .i64 (askL l).1, .int .i64 (askL l).2.1, .int .i64 (askL l).2.2]) ∧ G w w' := by
  have HA := Lib.hid (fun w1 (hb : G w w1) => asked_c l A C cA cC true w1 (hL.grow hb) hg hc)
  have HN : Hid (askErr l true ≠ 0 → askL l = (0, 0, askErr l true)) := fun h => by unfold askL; rw [if_neg h]
  have HN0 : Hid (askErr l true = 0 → l.gs.length = 0 → askL l = (0, 0, 7)) := fun h h0 => by unfold askL; rw [if_pos h, if_pos h0]
  have HY : Hid (askErr l true = 0 → l.gs.length ≠ 0 → askL l = (idx (minOf (mostL l)) (mostL l) 0, (mostL l).getD (idx (minOf (mostL l)) (mostL l) 0).toNat 0, 0)) := fun h h0 => by unfold askL; rw [if_pos h, if_neg h0]
  have hmk : ∀ W : World, (Instr.makeSlice 30 (.int .i64 (l.gs.length : Int)) (.int .i64 (l.gs.length : Int))).run Try.prog W = .ok (.slice (some ⟨W.heap.size, 0, none⟩) l.gs.length l.gs.length) (W.alloc (.cells (madeCells #[.int .i64 0] l.gs.length) 3)) := fun W =>
    run_make_row' 30 3 (.int .i64 0) 8 Try.underlying30 info3 rfl .i64 .i64 l.gs.length (by omega) (by omega) W
  go_enter Try.func25, Try.ntmps25
  go_wp2_with fail
  have hB : G w (w.alloc (.cells #[.int .i64 l.lo, .int .i64 l.hi, .slice A l.gs.length cA, .slice C l.cs.length cC] 38)) := (G.refl _).alloc _
  have q0 : Blk (w.alloc (.cells #[.int .i64 l.lo, .int .i64 l.hi, .slice A l.gs.length cA, .slice C l.cs.length cC] 38)) w.heap.size 38 #[.int .i64 l.lo, .int .i64 l.hi, .slice A l.gs.length cA, .slice C l.cs.length cC] := Blk.new _ _ _
  generalize w.alloc _ = W at *
  refine (HA.out _ hB).mono ?_
  rintro e w1 ⟨hb1, ⟨hne, rfl⟩ | ⟨h0, B, rfl, hA⟩⟩
  · have HR := Lib.hid (HN.out hne)
    generalize hE : askErr l true = E at *
    have HE := Lib.hid hE
    clear hE HN HN0 HY
    go_wp2_with fail
    go_ret3
    exact ⟨by simp [HR.out], hB.trans hb1⟩
  · have q1 := q0.grow hb1
    have d2 := q1.cell 2 (v := .slice A l.gs.length cA) rfl
    by_cases hng : l.gs.length = 0
    · have HR := Lib.hid (HN0.out h0 hng)
      rw [hng] at d2
      clear HN HN0 HY hng h0
      go_wp2_with fail
      go_ret3
      exact ⟨by simp [HR.out], hB.trans hb1⟩
    · have hngi : (l.gs.length : Int) ≠ 0 := by omega
      have HR := Lib.hid (HY.out h0 hng)
      have HNG := Lib.hid hng
      obtain ⟨hf, hnt⟩ := askErr_zero h0
      have hV := valid_of hf
      clear HN HN0 HY hng
      go_upto_region 7 with fail
      obtain ⟨tv, mb, n, hbk, -, hsp⟩ := hA.blk
      have g2 : G w1 (w1.alloc (.cells (madeCells #[.int .i64 0] l.gs.length) 3)) := (G.refl _).alloc _
      have m2 : BlkI (w1.alloc (.cells (madeCells #[.int .i64 0] l.gs.length) 3)) w1.heap.size (List.replicate l.gs.length 0) := BlkI.new w1 _ rfl
      have hz2 : (w1.alloc (.cells (madeCells #[.int .i64 0] l.gs.length) 3)).heap.size = w1.heap.size + 1 := by simp
      generalize w1.alloc _ = W2 at *
      have hmb := hsp.lt
      have hmbz : mb < W2.heap.size := by omega
      have hbk2 := (hbk.grow g2).cell 5 (v := .map (some mb)) rfl
      obtain ⟨w3, left, cnt, hrange, hRM, hg3, hz3, hl0⟩ := (hsp.grow g2).range
      have HM3 := Lib.hid (m2.grow ⟨hg3.os, hg3.tape, hg3.output, hg3.size, fun k hk => hg3.block k hk (by simp)⟩ : BlkI w3 w1.heap.size (List.replicate l.gs.length 0))
      have HRM := Lib.hid hRM
      have HL0 := Lib.hid hl0
      have gw3 : G w w3 := ((hB.trans hb1).trans g2).trans ⟨hg3.os, hg3.tape, hg3.output, hg3.size, fun k hk => hg3.block k hk (by simp)⟩
      have hw1 : w.heap.size < w1.heap.size := q1.lt
      have HTB : Hid (∀ g : Nat, g < l.gs.length → ∀ c ∈ truthsL l, 0 ≤ c.b g ∧ c.b g ≤ 9) := fun g _ c hc => (truth_ok hV hc).at g
      have hgs4 := hV.ng
      have HZ2 := Lib.hid hz2
      have HZ3 := Lib.hid hz3
      clear hRM hl0 m2 hbk hz2 hz3
      go_wp2_with fail
      have hbf : ((l.gs.length : Int) == 0) = false := by simpa using hngi
      simp only [hbf]
      go_loopw [] (fun wr => ∃ (most : List Int) (left : Int → Int → Bool) (cnt : Nat), Hid (RangeM wr mb W2.heap.size (cntF (truthsL l) l.gs.length) l.gs.length left cnt) ∧ Hid (BlkI wr w1.heap.size most) ∧ Hid (most.length = l.gs.length) ∧
          Hid (∀ g : Nat, g < l.gs.length → ∀ v, Fits v → left g v = false → cntF (truthsL l) l.gs.length g v ≤ most.getD g 0) ∧ Hid (∀ g : Nat, g < l.gs.length → most.getD g 0 = 0 ∨ ∃ v, most.getD g 0 = cntF (truthsL l) l.gs.length g v) ∧ Below w1.heap.size w3 wr) (fun wr => wr.rangeLeft mb W2.heap.size)
      case atStart =>
        refine ⟨_, left, cnt, HRM.out, HM3.out, by simp [Hid], fun g hg v hv hl => ?_, fun g hg => .inl (by simp [List.getD, hg]), Below.refl _ _⟩
        rw [HL0.out g v (fits_small (by omega)) hv hl]
        simp [List.getD, hg]
      case round =>
        obtain ⟨most, left, cnt, HR3, HM, HML, HLE, HAT, hbw⟩ := hrel
        have gWr : G w wr := Below.trans gw3 (hbw.mono (by omega))
        have HMS := Lib.hid HR3.out.left_eq
        rcases HR3.out.next 0 with ⟨hc0, hall, hnext⟩ | ⟨g, v, w5, cnt', left', hg0, hg1, hgf, hvf, hnext, hen, hR5, hlt, hgr, hstrike⟩
        · have HALL := Lib.hid hall
          have hmost : Hid (most = mostL l) := by
            apply List.ext_getElem (by simp [mostL]; exact HML.out)
            intro g h1 h2
            have hgn : g < l.gs.length := by have := HML.out; omega
            have e := most_eq (HTB.out g hgn) (fun v hv => HLE.out g hgn v hv (HALL.out g v (fits_small (by omega)) hv)) (HAT.out g hgn)
            simp only [mostL, List.getElem_map, List.getElem_range]
            rw [← e]
            simp [List.getD, h1]
          clear hall hc0
          have hne : most ≠ [] := by intro e; have := HML.out; rw [e] at this; exact HNG.out this.symm
          have hml : most.length ≤ 1000000 := by have := HML.out; omega
          have hmem : minOf most ∈ most := by
            cases most with
            | nil => exact absurd rfl hne
            | cons x xs => exact minL_mem xs x
          obtain ⟨j, hj, hjv, -⟩ := idx_spec most (minOf most) 0 hmem
          rw [Int.zero_add] at hj
          obtain ⟨hjl, hjv2⟩ := List.getElem?_eq_some_iff.1 hjv
          have HJ := Lib.hid hj
          have HJV := Lib.hid hjv2
          have hcj := HM.out.cell hjl
          rw [hjv2] at hcj
          have hjn : (j : Int) < l.gs.length := by have := HML.out; omega
          have hj0 : (0 : Int) ≤ j := by omega
          clear hj hjv hjv2
          have HML' := Lib.hid HML.out
          go_wp2_with fail
          refine (MinN_c _ most _ _ wr HML.out.symm hne HM.out.row hml).mono ?_
          rintro e w6 ⟨rfl, rfl⟩
          go_wp2_with fail
          refine (IndexN_c _ most _ _ (minOf most) wr HML.out.symm HM.out.row hml).mono ?_
          rintro e w6 ⟨rfl, rfl⟩
          rw [HJ.out]
          go_wp2_with fail
          go_quiet (fail)
          go_wp2_with fail
          go_ret3
          have ha : askL l = ((j : Int), minOf most, 0) := by
            rw [HR.out, ← hmost.out, HJ.out]
            simp only [Int.toNat_natCast]
            rw [show most.getD j 0 = most[j] by simp [List.getD, hjl], HJV.out]
          exact ⟨by simp [ha], gWr.drewN _⟩
        · obtain ⟨gn, rfl⟩ := Int.eq_ofNat_of_zero_le hg0
          have hgn : gn < l.gs.length := by omega
          have HR5 := Lib.hid hR5
          have HGR := Lib.hid hgr
          have HST := Lib.hid hstrike
          clear hR5 hgr hstrike
          go_wp2_with fail
          have g6 : G w5 (w5.alloc (.cells #[.int .i64 gn, .int .i64 v] 123)) := (G.refl _).alloc _
          have x6 : Blk (w5.alloc (.cells #[.int .i64 gn, .int .i64 v] 123)) w5.heap.size 123 #[.int .i64 gn, .int .i64 v] := Blk.new _ _ _
          generalize w5.alloc _ = w6 at *
          have hmb1 : mb ≠ w1.heap.size := by have := hsp.lt; omega
          have HM5 : BlkI w5 w1.heap.size most := Blk.grown HM.out HGR.out (by have := HZ2.out; intro e; injection e with e; omega)
          have HM6 := Lib.hid (HM5.grow g6)
          have hgm : gn < most.length := by have := HML.out; omega
          have hgi : (gn : Int) < l.gs.length := by omega
          have hg00 : (0 : Int) ≤ gn := by omega
          have y0 := x6.cell 0 (v := .int .i64 gn) rfl
          have z0 := HM6.out.cell hgm
          have zf := Blk.frozen HM6.out gn
          have HGD := Lib.hid (show most.getD gn 0 = most[gn] by simp [List.getD, hgm])
          generalize hmo : most[gn] = mo at *
          have HMO := Lib.hid hmo
          generalize hcv : cntF (truthsL l) l.gs.length gn v = cv at *
          have HCV := Lib.hid hcv
          clear hmo hcv HM5
          have hlow6 : Below w1.heap.size w3 w6 := Below.trans hbw (Below.trans (Below.grown (Below.refl _ wr) HGR.out (by have := hbw.size; have := HZ2.out; have := HZ3.out; omega) (fun j hj => by cases hj; have := HZ2.out; omega)) (g6.mono (by have := hbw.size; have := HGR.out.size; have := HZ2.out; have := HZ3.out; omega)))
          have fin : ∀ x, x = (if mo < cv then cv else mo) → Hid (RangeM (w6.setCell ⟨w1.heap.size, gn, none⟩ (.int .i64 x)).drew mb W2.heap.size (cntF (truthsL l) l.gs.length) l.gs.length left' cnt') ∧ Hid (BlkI (w6.setCell ⟨w1.heap.size, gn, none⟩ (.int .i64 x)).drew w1.heap.size (most.set gn x)) ∧ Hid ((most.set gn x).length = l.gs.length) ∧
              Hid (∀ g : Nat, g < l.gs.length → ∀ v, Fits v → left' g v = false → cntF (truthsL l) l.gs.length g v ≤ (most.set gn x).getD g 0) ∧ Hid (∀ g : Nat, g < l.gs.length → (most.set gn x).getD g 0 = 0 ∨ ∃ v, (most.set gn x).getD g 0 = cntF (truthsL l) l.gs.length g v) ∧ Below w1.heap.size w3 (w6.setCell ⟨w1.heap.size, gn, none⟩ (.int .i64 x)).drew := by
            intro x hx
            have hgX : w5.grownBy (w6.setCell ⟨w1.heap.size, gn, none⟩ (.int .i64 x)).drew (some w1.heap.size) := grownBy_trans (World.grownBy.but (grownBy_of g6) _) (grownBy_trans (grownBy_set w6 ⟨w1.heap.size, gn, none⟩ _) (World.grownBy.but (grownBy_of (G.refl _).drew) _))
            have hgd : ∀ g, (most.set gn x).getD g 0 = if g = gn then x else most.getD g 0 := fun g => by
              rw [List.getD_eq_getElem?_getD, List.getD_eq_getElem?_getD, List.getElem?_set]
              by_cases h : g = gn
              · subst h; simp [hgm]
              · rw [if_neg (fun e => h e.symm), if_neg h]
            refine ⟨HR5.out.kept hgX (by intro e; injection e with e; exact hmb1 e) (by have := HZ2.out; intro e; injection e with e; omega), BlkI.grow (BlkI.set HM6.out gn x) (G.refl _).drew, by rw [Hid, List.length_set]; exact HML.out, fun g hgn' v' hv' hl => ?_, fun g hgn' => ?_, Below.trans hlow6 (((Below.refl _ w6).setCell (by simp) _).drew)⟩
            · rw [hgd]
              rcases HST.out g v' (fits_small (by omega)) hv' hl with h1 | ⟨h1, h2⟩
              · have h3 := HLE.out g hgn' v' hv' h1
                by_cases h : g = gn
                · rw [if_pos h]
                  subst h
                  rw [HGD.out] at h3
                  rw [hx]; split <;> omega
                · rw [if_neg h]; exact h3
              · have h4 : g = gn := by omega
                subst h4
                subst h2
                rw [if_pos rfl, HCV.out, hx]
                split <;> omega
            · rw [hgd]
              by_cases h : g = gn
              · rw [if_pos h]
                subst h
                rw [hx]
                split
                · exact .inr ⟨v, HCV.out.symm⟩
                · have h3 := HAT.out g hgn'
                  rw [HGD.out] at h3
                  exact h3
              · rw [if_neg h]; exact HAT.out g hgn'
          have FIN := Lib.hid fin
          clear fin
          by_cases hmx : mo < cv
          · have h := FIN.out cv (by rw [if_pos hmx])
            have HH := Lib.hid h
            clear h
            go_still_tail 10, (by kernel_rfl)
            change wpList _ _ _ _ _ w6.drew
            have z1 := (G.refl w6).drew.cell z0
            have zf1 : w6.drew.frozen? ⟨w1.heap.size, gn, none⟩ = false := zf
            go_wp2_with fail
            go_roundw
            case rel =>
              first
                | exact ⟨most.set gn cv, left', cnt', HH.out⟩
                | exact ⟨most.set gn cv, left', ⟨cnt', HH.out.1⟩, HH.out.2⟩
            case measure =>
              have h1 := HH.out.1.out.left_eq
              have h2 := HMS.out
              omega
          · have h := FIN.out mo (by rw [if_neg hmx])
            have HH := Lib.hid h
            clear h
            go_still_tail 10, (by kernel_rfl)
            change wpList _ _ _ _ _ w6.drew
            have z1 := (G.refl w6).drew.cell z0
            have zf1 : w6.drew.frozen? ⟨w1.heap.size, gn, none⟩ = false := zf
            go_wp2_with fail
            go_roundw
            case rel =>
              first
                | exact ⟨most.set gn mo, left', cnt', HH.out⟩
                | exact ⟨most.set gn mo, left', ⟨cnt', HH.out.1⟩, HH.out.2⟩
            case measure =>
              have h1 := HH.out.1.out.left_eq
              have h2 := HMS.out
              omega
end Go.Proofs.Ytogdhkecpjndlaa.C

/- slices.Clone of whole numbers. -/
namespace Go.Proofs.Ytogdhkecpjndlaa.C
open Go.RowKit
set_option maxRecDepth 100000

section
variable {ops : Array Oper} {rest : List Oper} {o : Oper} {a : Act} {Q : Exit → Act → World → Prop} {W : World}
theorem app_is (base : Nat) (hgd : o.guard = none) (s x : Operand) (ho : o.op = .call { callee := .builtin .append, args := #[s, x], argTypes := #[30, 30] }) (v : Value) (xs ys : List Int) (hs : a.eval s = v) (b off m c : Nat)
    (hx : a.eval x = .slice (some ⟨b, off, none⟩) m c) (hm : m = ys.length) (hn : ∀ j y, ys[j]? = some y → W.cell? ⟨b, off + j, none⟩ = some (.int .i64 y)) (HO : OwnI base W v xs) (hbase : base ≤ W.heap.size) (hl : xs.length ≤ 100000000) (hl2 : ys.length ≤ 100000000)
    (h : ∀ v1 w1, OwnI base w1 v1 (xs ++ ys) → W.grownBy w1 v.ownBlock → (v1.ownBlock = v.ownBlock ∨ v1.ownBlock = some W.heap.size) → wpList Try.prog ops Q rest (a.put o.dst v1) w1) :
    wpList Try.prog ops Q (o :: rest) a W := by
  obtain ⟨i0, hi, hzz⟩ := Option.map_eq_some_iff.1 info3
  simp only [Prod.mk.injEq] at hzz
  obtain ⟨hz0, hz1, hz2⟩ := hzz
  subst hm
  refine wpList_append_own_at W hgd s x 30 ho base 3 i0 (.int .i64 0) 1 8 Try.underlying30 hi hz0 hz1 hz2 rfl (by omega) v xs.length (ints xs) hs HO ⟨b, off, none⟩ ys.length c (ints ys) hx (by simp [ints]) (fun j u hj => ?_) (fun u hu => ?_) (by simp only [maxLen]; omega) (by omega) hbase
    (fun v1 w1 h2 h3 _ h4 => h v1 w1 (by simpa [OwnI, ints] using h2) h3 h4)
  · have ha : (⟨b, off, none⟩ : Addr).add j = ⟨b, off + j, none⟩ := by unfold Addr.add; split <;> simp_all
    rw [ha]
    simp only [ints, List.getElem?_map, Option.map_eq_some_iff] at hj
    obtain ⟨y, hy, rfl⟩ := hj
    exact hn j y hy
  · simp only [ints, List.mem_map] at hu
    obtain ⟨y, -, rfl⟩ := hu
    simp [Value.oneCell']
end

theorem eq_nil30 (w : World) (a : Option Addr) (n c : Nat) : (binOp .eql 30 (.slice a n c) (.slice none 0 0)).run Try.prog w = .ok (.bool a.isNone) w := by
  simp only [binOp]
  simp [Op.equal, Op.maxDepth, Lib.run_equalIn_slice_nil w 9999 30 3 a n c 0 0 Try.underlying30]

set_option maxHeartbeats 4000000 in
theorem Clone_c (A : Option Addr) (c : Nat) (xs : List Int) (w : World) (hX : RowI w A xs) (hl : xs.length ≤ 1000000) (hA : A = none ∧ xs = [] ∧ c = 0 ∨ ∃ b off, A = some ⟨b, off, none⟩) :
    Calls Try.prog 94 #[.slice A xs.length c] w fun e w' => (∃ v, e = .returned v ∧ OwnI w.heap.size w' v xs) ∧ G w w' := by
  rcases hA with ⟨rfl, rfl, rfl⟩ | ⟨b, off, rfl⟩
  · have hnil := eq_nil30 w none 0 0
    go_enter Try.func94, Try.ntmps94
    go_wp2_with fail
    go_ret
    exact ⟨⟨_, rfl, OwnI.nil _ _⟩, G.refl _⟩
  · have hnil := eq_nil30 w (some ⟨b, off, none⟩) xs.length c
    have HX := Lib.hid hX
    go_enter Try.func94, Try.ntmps94
    go_upto_region 3 with fail
    have hown0 : OwnI w.heap.size (w.alloc (.cells #[] 3)) (.slice (some ⟨w.heap.size, 0, none⟩) 0 0) [] := ⟨rfl, .inr ⟨w.heap.size, 0, #[], rfl, Nat.le_refl _, heap_alloc_new _ _, Nat.le_refl _, by simp [maxLen], rfl, rfl⟩⟩
    have hcl : ∀ j y, xs[j]? = some y → (w.alloc (.cells #[] 3)).cell? ⟨b, off + j, none⟩ = some (.int .i64 y) := fun j y hj => by
      obtain ⟨b', off', e, h0⟩ := HX.out j y hj
      cases e
      exact ((G.refl w).alloc _).cell h0
    have HCL := Lib.hid hcl
    have HO0 := Lib.hid hown0
    clear hcl hown0
    go_wp2_with (at_builtin; refine app_is w.heap.size rfl _ _ rfl _ _ _ rfl b off xs.length c rfl rfl HCL.out HO0.out (by simp) (by simp) (by omega) ?_; intro v1 w1 h1 h2 h3)
    have H1 := Lib.hid h1
    have hg := ((G.refl w).alloc (.cells #[] 3)).grown h2 (fun k hk => own_base HO0.out k hk)
    clear h1 h2 h3
    go_wp2_with fail
    go_ret
    have ho := H1.out
    rw [List.nil_append] at ho
    exact ⟨⟨_, rfl, ho⟩, hg⟩
end Go.Proofs.Ytogdhkecpjndlaa.C

/- Leave: the walk. -/
namespace Go.Proofs.Ytogdhkecpjndlaa.C
open Go.RowKit
set_option maxRecDepth 100000

theorem wpAnyT_two {P : Program} {md : Region.Mode} {ops : Array Oper} {Q : Exit → Act → World → Prop} {S : World → Prop} {m : Nat} {i j : Nat} {oi oj : Oper} {fuel : Nat} {listed : Array Bool} {a : Act} {w : World} (hr : Region.ready md ops listed = [i, j]) (hi : ops[i]? = some oi) (hj : ops[j]? = some oj)
    (h1 : wpList P ops (Exit.then (fun a' w' => S w' ∧ wpAnyT P md ops Q S m fuel (listed.setIfInBounds i true) a' w') Q) [oi] a w)
    (h2 : wpList P ops (Exit.then (fun a' w' => S w' ∧ wpAnyT P md ops Q S m fuel (listed.setIfInBounds j true) a' w') Q) [oj] a w) : wpAnyT P md ops Q S m (fuel + 1) listed a w := by
  have key : ∀ (k : Nat) (o : Oper), ops[k]? = some o → wpList P ops (Exit.then (fun a' w' => S w' ∧ wpAnyT P md ops Q S m fuel (listed.setIfInBounds k true) a' w') Q) [o] a w → wpOp P ops Q k (fun a' w' => (k < m → S w') ∧ wpAnyT P md ops Q S m fuel (listed.setIfInBounds k true) a' w') a w := by
    intro k o ho h
    unfold wpOp
    simp only [ho]
    unfold wpList at h
    split
    · rename_i hw
      rw [if_pos hw] at h
      rcases h with h | ⟨h1, x, y, h2⟩
      · left
        unfold Oper.wp at *
        refine upon_then (fun a' w' hh => ?_) _ h
        exact ⟨fun _ => hh.1, hh.2⟩
      · exact .inr ⟨h1, x, y, h2⟩
    · rename_i hw
      rw [if_neg hw] at h
      exact ⟨fun _ => h.1, h.2⟩
  refine ⟨fun h0 => (by rw [h0] at hr; cases hr), fun k hk => ?_⟩
  rw [hr] at hk
  rcases List.mem_cons.1 hk with rfl | hk
  · exact key _ _ hi h1
  · obtain rfl : k = j := by simpa using hk
    exact key _ _ hj h2

/-- The search for so many claims more, from one on. -/
def leaveS (l : Led) : Nat → List Int → Nat → Option (List Int)
  | 0, out, _ => if anyR l out = true then some out else none
  | m + 1, out, from' => (List.range' from' (l.cs.length - m - from')).findSome? fun (i : Nat) => leaveS l m (out ++ [(i : Int)]) (i + 1)

/-- What a call of leave leaves behind. -/
def LeavePost (l : Led) (base bf : Nat) (W : World) (r : Option (List Int)) (W' : World) : Prop :=
  W.grownBy W' (some bf) ∧ ∃ v, Blk W' bf 30 #[v] ∧ ∀ o, r = some o → OwnI base W' v o

set_option maxHeartbeats 4000000 in
theorem leave0_c {l : Led} {A C : Option Addr} {cA cC bf bl bv base : Nat} {w W : World} {u : Value} (hV : Valid l) (hL : LedR w l A C) (hg : ∀ W', W.grownBy W' (some bf) → G w W') (out : List Int) (v : Value) (from' : Int) (ho : OwnI base W v out) (hl : out.length ≤ 100)
    (hbf : Blk W bf 30 #[u]) (hbl : Blk W bl 38 #[.int .i64 l.lo, .int .i64 l.hi, .slice A l.gs.length cA, .slice C l.cs.length cC]) (hne : bl ≠ bf) (hb : bf < base) :
    Calls Try.prog 93 #[v, .int .i64 from', .int .i64 0, ptr bf, ptr bl, ptr bv] W fun e W' => e = .returned (.bool (leaveS l 0 out 0).isSome) ∧ LeavePost l base bf W (leaveS l 0 out 0) W' := by
  obtain ⟨A1, c1, rfl, -, hR⟩ := ho.row
  have hS : Hid ((leaveS l 0 out 0).isSome = anyR l out ∧ ∀ o, leaveS l 0 out 0 = some o → o = out) := by
    unfold Hid leaveS
    cases anyR l out <;> simp
  have u0 := hbf.cell 0 (v := u) rfl
  have uf := hbf.frozen 0
  have d0 : (W.setCell ⟨bf, 0, none⟩ (.slice A1 out.length c1)).cell? ⟨bl, 0, none⟩ = some (.int .i64 l.lo) := (hbl.far (by simpa using hne) _).cell 0 rfl
  have d1 : (W.setCell ⟨bf, 0, none⟩ (.slice A1 out.length c1)).cell? ⟨bl, 1, none⟩ = some (.int .i64 l.hi) := (hbl.far (by simpa using hne) _).cell 1 rfl
  have d2 : (W.setCell ⟨bf, 0, none⟩ (.slice A1 out.length c1)).cell? ⟨bl, 2, none⟩ = some (.slice A l.gs.length cA) := (hbl.far (by simpa using hne) _).cell 2 rfl
  have d3 : (W.setCell ⟨bf, 0, none⟩ (.slice A1 out.length c1)).cell? ⟨bl, 3, none⟩ = some (.slice C l.cs.length cC) := (hbl.far (by simpa using hne) _).cell 3 rfl
  have HR := Lib.hid hR
  have HO := Lib.hid ho
  clear hR ho
  go_enter Try.func93, Try.ntmps93
  go_upto_region 3 with fail
  have hgs : W.grownBy (W.setCell ⟨bf, 0, none⟩ (.slice A1 out.length c1)) (some bf) := grownBy_set W ⟨bf, 0, none⟩ _
  have hp : Blk (W.setCell ⟨bf, 0, none⟩ (.slice A1 out.length c1)) bf 30 #[.slice A1 out.length c1] := hbf.set 0 _
  have ho2 : OwnI base (W.setCell ⟨bf, 0, none⟩ (.slice A1 out.length c1)) (.slice A1 out.length c1) out := own_block HO.out (fun k hk => Below.heap_setCell W _ _ k (by have := own_base HO.out k hk; simp; omega))
  generalize W.setCell _ _ = W2 at *
  obtain ⟨A2, c2, e, -, hR2⟩ := ho2.row
  cases e
  have HO2 := Lib.hid ho2
  clear ho2
  go_wp2_with fail
  refine (possible_c l A C _ cA cC _ out W2 hV (hL.grow (hg _ hgs)) hR2 hl).mono ?_
  rintro e W3 ⟨rfl, hb3⟩
  go_wp2_with fail
  go_ret
  refine ⟨by rw [hS.out.1]; rfl, grownBy_trans hgs (World.grownBy.but (grownBy_of hb3) _), _, hp.grow hb3, fun o h => ?_⟩
  rw [hS.out.2 o h]
  exact HO2.out.grow hb3

set_option maxHeartbeats 8000000 in
theorem leave_c {l : Led} {A C : Option Addr} {cA cC bf bl bv base : Nat} {w : World} (hV : Valid l) (hL : LedR w l A C) (hw : w.heap.size ≤ bf) (hne : bl ≠ bf) (hnv : bv ≠ bf) (hb : bf < base) : ∀ (m : Nat), m ≤ 10 → ∀ (out : List Int) (from' : Nat) (v u : Value) (W : World), G w W → OwnI base W v out → out.length + m ≤ 100 → base ≤ W.heap.size → from' ≤ 100 →
    Blk W bf 30 #[u] → Blk W bl 38 #[.int .i64 l.lo, .int .i64 l.hi, .slice A l.gs.length cA, .slice C l.cs.length cC] → Blk W bv 144 #[.func (.func 93) #[] #[ptr bf, ptr bl, ptr bv]] →
    Calls Try.prog 93 #[v, .int .i64 from', .int .i64 m, ptr bf, ptr bl, ptr bv] W fun e W' => e = .returned (.bool (leaveS l m out from').isSome) ∧ LeavePost l base bf W (leaveS l m out from') W' := by
  intro m
  induction m with
  | zero =>
    intro _ out from' v u W hg ho hl hbs hfr hbf hbl hbv
    exact leave0_c hV hL (fun W' h => hg.grown h (fun k hk => by cases hk; exact hw)) out v from' ho (by omega) hbf hbl hne hb
  | succ m ih =>
    intro hm out from' v u W hg ho hl hbs hfr hbf hbl hbv
    have HI := Lib.hid (ih (by omega))
    have HO := Lib.hid ho
    have HBF := Lib.hid hbf
    have HBL := Lib.hid hbl
    have HBV := Lib.hid hbv
    have hnc := hV.nc
    obtain ⟨A1, c1, rfl, -, -⟩ := ho.row
    clear ih ho hbf hbl hbv
    go_enter Try.func93, Try.ntmps93
    go_wp2_with fail
    go_loopw [9, 10] (fun v9 v10 wr => ∃ (i : Nat) (u' : Value), i ≤ 200 ∧ from' ≤ i ∧ v9 = .bool false ∧ v10 = .int .i64 i ∧ Hid (Blk wr bf 30 #[u']) ∧ Hid (W.grownBy wr (some bf)) ∧ Hid ((List.range' i (l.cs.length - m - i)).findSome? (fun (j : Nat) => leaveS l m (out ++ [(j : Int)]) (j + 1)) = leaveS l (m + 1) out from')) (fun _ v10 _ => 300 - (intOf v10).toNat)
    case atStart => exact ⟨from', u, by omega, Nat.le_refl _, rfl, rfl, HBF.out, ⟨rfl, rfl, rfl, Nat.le_refl _, fun _ _ _ => rfl⟩, rfl⟩
    case round =>
      obtain ⟨i, u', hi, hfi, rfl, rfl, HU, HG, HS⟩ := hrel
      have hbl2 : Blk wr bl 38 #[.int .i64 l.lo, .int .i64 l.hi, .slice A l.gs.length cA, .slice C l.cs.length cC] := Blk.grown HBL.out HG.out (fun e => hne (by injection e))
      have d3 := hbl2.cell 3 (v := .slice C l.cs.length cC) rfl
      have hbv2 : Blk wr bv 144 #[.func (.func 93) #[] #[ptr bf, ptr bl, ptr bv]] := Blk.grown HBV.out HG.out (fun e => hnv (by injection e))
      have e0 := hbv2.cell 0 (v := .func (.func 93) #[] #[ptr bf, ptr bl, ptr bv]) rfl
      by_cases hlt : (i : Int) ≤ l.cs.length - (m + 1)
      · go_wp2_with fail
        refine wp_region_T (fun w' => w'.cell? ⟨bv, 0, none⟩ = some (.func (.func 93) #[] #[ptr bf, ptr bl, ptr bv])) 11 (by kernel_rfl) ?_
        obtain ⟨z, hz5⟩ : ∃ z : World, z = { wr with drawn := wr.drawn + 1 } := ⟨_, rfl⟩
        rw [← hz5]
        have gz : G wr z := by rw [hz5]; exact (G.refl _).drew
        clear hz5
        have HSz := gz.cell e0
        have hw1 : IntKind.i64.wrap ((i : Int) + 1) = i + 1 := by simp [IntKind.wrap, IntKind.bits, IntKind.signed]; omega
        have hw2 : IntKind.i64.wrap (m : Int) = m := by simp [IntKind.wrap, IntKind.bits, IntKind.signed]; omega
        have hgz : W.grownBy z (some bf) := grownBy_trans HG.out (World.grownBy.but (grownBy_of gz) _)
        have hoz : OwnI base z (.slice A1 out.length c1) out := own_grow (own_block HO.out (fun k hk => HG.out.block k (own_lt HO.out k hk) (fun e => by have := own_base HO.out k hk; injection e with e; omega))) gz
        have hA1 : A1 = none ∧ out = [] ∧ c1 = 0 ∨ ∃ b off, A1 = some ⟨b, off, none⟩ := by
          rcases hoz.2 with ⟨h1, h2⟩ | ⟨g, cap, cur, h1, -⟩
          · simp only [Value.slice.injEq] at h1
            exact .inl ⟨h1.1, List.eq_nil_of_length_eq_zero h1.2.1, h1.2.2⟩
          · cases h1
            exact .inr ⟨_, _, rfl⟩
        have hRz : RowI z A1 out := by
          obtain ⟨A2, c2, e, -, hr⟩ := hoz.row
          cases e
          exact hr
        have hbz : base ≤ z.heap.size := by have := hgz.size; omega
        refine wpAnyT_take (i := 0) (v := .func (.func 93) #[] #[ptr bf, ptr bl, ptr bv]) (by decide) rfl (by kernel_rfl) (by kernel_rfl) (by kernel_rfl) (by kernel_rfl) (fun _ _ _ h => h) HSz (Or.inl ⟨by rfl, ?_⟩) ?_
        · intro w s0
          go_simp
        simp only [Act.put, List.setIfInBounds_toArray, List.set_cons_succ, List.set_cons_zero]
        refine wpAnyT_take (i := 1) (v := .slice A1 out.length c1) (by decide) rfl (by kernel_rfl) (by kernel_rfl) (by kernel_rfl) (by kernel_rfl) (fun _ _ _ h => h) HSz (Or.inl ⟨by rfl, ?_⟩) ?_
        · intro w s0
          go_simp
        simp only [Act.put, List.setIfInBounds_toArray, List.set_cons_succ, List.set_cons_zero]
        refine wpAnyT_take (i := 3) (v := .int .i64 i) (by decide) rfl (by kernel_rfl) (by kernel_rfl) (by kernel_rfl) (by kernel_rfl) (fun _ _ _ h => h) HSz (Or.inl ⟨by rfl, ?_⟩) ?_
        · intro w s0
          go_simp
        simp only [Act.put, List.setIfInBounds_toArray, List.set_cons_succ, List.set_cons_zero]
        refine wpAnyT_take (i := 6) (v := .int .i64 i) (by decide) rfl (by kernel_rfl) (by kernel_rfl) (by kernel_rfl) (by kernel_rfl) (fun _ _ _ h => h) HSz (Or.inl ⟨by rfl, ?_⟩) ?_
        · intro w s0
          go_simp
        simp only [Act.put, List.setIfInBounds_toArray, List.set_cons_succ, List.set_cons_zero]
        refine wpAnyT_take (i := 7) (v := .int .i64 (i + 1)) (by decide) rfl (by kernel_rfl) (by kernel_rfl) (by kernel_rfl) (by kernel_rfl) (fun _ _ _ h => h) HSz (Or.inl ⟨by rfl, ?_⟩) ?_
        · intro w s0
          go_simp
        simp only [Act.put, List.setIfInBounds_toArray, List.set_cons_succ, List.set_cons_zero]
        refine wpAnyT_take (i := 8) (v := .int .i64 (m + 1)) (by decide) rfl (by kernel_rfl) (by kernel_rfl) (by kernel_rfl) (by kernel_rfl) (fun _ _ _ h => h) HSz (Or.inl ⟨by rfl, ?_⟩) ?_
        · intro w s0
          go_simp
        simp only [Act.put, List.setIfInBounds_toArray, List.set_cons_succ, List.set_cons_zero]
        refine wpAnyT_take (i := 9) (v := .int .i64 m) (by decide) rfl (by kernel_rfl) (by kernel_rfl) (by kernel_rfl) (by kernel_rfl) (fun _ _ _ h => h) HSz (Or.inl ⟨by rfl, ?_⟩) ?_
        · intro w s0
          go_simp
        simp only [Act.put, List.setIfInBounds_toArray, List.set_cons_succ, List.set_cons_zero]
        have hrec : ∀ (w3 : World) (A3 : Option Addr) (c3 : Nat), W.grownBy w3 (some bf) → Blk w3 bf 30 #[u'] → OwnI base w3 (.slice A3 (out ++ [(i : Int)]).length c3) (out ++ [(i : Int)]) →
            Calls Try.prog 93 #[.slice A3 (out.length + 1) c3, .int .i64 ((i : Int) + 1), .int .i64 m, ptr bf, ptr bl, ptr bv] w3 fun e W' => e = .returned (.bool (leaveS l m (out ++ [(i : Int)]) (i + 1)).isSome) ∧ LeavePost l base bf w3 (leaveS l m (out ++ [(i : Int)]) (i + 1)) W' := by
          intro w3 A3 c3 hgw hbf3 how
          have hh := HI.out (out ++ [(i : Int)]) (i + 1) _ _ w3 (hg.grown hgw (fun k hk => by cases hk; exact hw)) how (by simp; omega) (by have := hgw.size; omega) (by omega) (Blk.grow hbf3 (G.refl _)) (Blk.grown HBL.out hgw (fun e => hne (by injection e))) (Blk.grown HBV.out hgw (fun e => hnv (by injection e)))
          rw [List.length_append] at hh
          exact hh
        refine wpAnyT_two (i := 2) (j := 4) (by kernel_rfl) rfl rfl ?_ ?_
        · go_wp2_with fail
          refine (Clone_c A1 c1 out z hRz (by omega) hA1).mono ?_
          rintro e w2 ⟨⟨v2, rfl, hO2⟩, hb2⟩
          go_wp2_with fail
          refine ⟨hb2.cell HSz, ?_⟩
          refine wpAnyT_one (i := 4) (by kernel_rfl) rfl ?_
          go_wp2_with fail
          refine ⟨(hb2.alloc _).cell HSz, ?_⟩
          refine wpAnyT_one (i := 5) (by kernel_rfl) rfl ?_
          refine app_i z.heap.size rfl _ _ rfl _ _ (i : Int) rfl w2.heap.size rfl (newCell _ _ _ _ rfl) (hO2.grow ((G.refl _).alloc _)) (hb2.alloc _).size (by omega) ?_
          intro v3 w3 h1 h2 h3
          obtain ⟨A3, c3, rfl, -, -⟩ := h1.row
          have g3 : G z w3 := (hb2.alloc _).grown h2 (fun k hk => own_base hO2 k hk)
          refine And.intro (g3.cell HSz) ?_
          refine wpAnyT_one (i := 10) (by kernel_rfl) rfl ?_
          go_wp2_with fail
          refine (hrec w3 A3 c3 (grownBy_trans hgz (World.grownBy.but (grownBy_of g3) _)) ((HU.out.grow gz).grow g3) (own_lower h1 hbz)).mono ?_
          rintro e w4 ⟨rfl, hLP⟩
          have hsv := grown_cell hLP.1 (g3.cell HSz) (by intro e; injection e with e; exact hnv e.symm)
          have HLP := Lib.hid hLP
          have hW4 := Lib.hid (grownBy_trans (grownBy_trans hgz (World.grownBy.but (grownBy_of g3) _)) hLP.1)
          clear hLP
          cases hrr : leaveS l m (out ++ [(i : Int)]) (i + 1)
          · have HRR := Lib.hid hrr
            have hbb : (none : Option (List Int)).isSome = false := rfl
            rw [hbb]
            clear hrr
            go_wp2_with fail
            refine ⟨hsv, ?_⟩
            refine wpAnyT_drop (k := 11) (by decide) rfl (by kernel_rfl) ?_
            simp only [List.drop_succ_cons, List.drop_zero, List.drop_nil]
            go_wp2_with fail
            refine And.intro ?_ ?measure
            (repeat apply Exists.intro)
            refine And.intro ?rel ?_
            rotate_left
            rfl
            case rel =>
              obtain ⟨v4, hv4, -⟩ := HLP.out.2
              refine ⟨i + 1, v4, by omega, by omega, rfl, by go_num, hv4, hW4.out, ?_⟩
              rw [Hid, ← HS.out, show l.cs.length - m - i = (l.cs.length - m - (i + 1)) + 1 by omega, List.range'_succ, List.findSome?_cons, HRR.out]
            case measure => simp [intOf]; omega
          · rename_i o
            have HRR := Lib.hid hrr
            have hbb : (some o : Option (List Int)).isSome = true := rfl
            rw [hbb]
            clear hrr
            go_wp2_with fail
            refine ⟨hsv, ?_⟩
            refine wpAnyT_drop (k := 11) (by decide) rfl (by kernel_rfl) ?_
            simp only [List.drop_succ_cons, List.drop_zero, List.drop_nil]
            go_wp2_with fail
            go_ret
            have hres : leaveS l (m + 1) out from' = some o := by
              rw [← HS.out, show l.cs.length - m - i = (l.cs.length - m - (i + 1)) + 1 by omega, List.range'_succ, List.findSome?_cons, HRR.out]
            rw [hres]
            obtain ⟨v4, hv4, hv5⟩ := HLP.out.2
            exact ⟨rfl, hW4.out, v4, hv4, fun o' ho' => hv5 o' (by rw [HRR.out]; exact ho')⟩
        · go_wp2_with fail
          refine ⟨((G.refl z).alloc _).cell HSz, ?_⟩
          refine wpAnyT_one (i := 2) (by kernel_rfl) rfl ?_
          go_wp2_with fail
          have ga : G z (z.alloc (.cells #[.int .i64 i] 3)) := (G.refl _).alloc _
          refine (Clone_c A1 c1 out (z.alloc (.cells #[.int .i64 i] 3)) (hRz.grow ga) (by omega) hA1).mono ?_
          rintro e w2 ⟨⟨v2, rfl, hO2⟩, hb2⟩
          go_wp2_with fail
          refine ⟨(ga.trans hb2).cell HSz, ?_⟩
          refine wpAnyT_one (i := 5) (by kernel_rfl) rfl ?_
          refine app_i z.heap.size rfl _ _ rfl _ _ (i : Int) rfl z.heap.size rfl (hb2.cell (newCell _ _ _ _ rfl)) (OwnI.lower hO2 ga.size) (ga.trans hb2).size (by omega) ?_
          intro v3 w3 h1 h2 h3
          obtain ⟨A3, c3, rfl, -, -⟩ := h1.row
          have g3 : G z w3 := (ga.trans hb2).grown h2 (fun k hk => Nat.le_trans ga.size (own_base hO2 k hk))
          refine And.intro (g3.cell HSz) ?_
          refine wpAnyT_one (i := 10) (by kernel_rfl) rfl ?_
          go_wp2_with fail
          refine (hrec w3 A3 c3 (grownBy_trans hgz (World.grownBy.but (grownBy_of g3) _)) ((HU.out.grow gz).grow g3) (own_lower h1 hbz)).mono ?_
          rintro e w4 ⟨rfl, hLP⟩
          have hsv := grown_cell hLP.1 (g3.cell HSz) (by intro e; injection e with e; exact hnv e.symm)
          have HLP := Lib.hid hLP
          have hW4 := Lib.hid (grownBy_trans (grownBy_trans hgz (World.grownBy.but (grownBy_of g3) _)) hLP.1)
          clear hLP
          cases hrr : leaveS l m (out ++ [(i : Int)]) (i + 1)
          · have HRR := Lib.hid hrr
            have hbb : (none : Option (List Int)).isSome = false := rfl
            rw [hbb]
            clear hrr
            go_wp2_with fail
            refine ⟨hsv, ?_⟩
            refine wpAnyT_drop (k := 11) (by decide) rfl (by kernel_rfl) ?_
            simp only [List.drop_succ_cons, List.drop_zero, List.drop_nil]
            go_wp2_with fail
            refine And.intro ?_ ?measure
            (repeat apply Exists.intro)
            refine And.intro ?rel ?_
            rotate_left
            rfl
            case rel =>
              obtain ⟨v4, hv4, -⟩ := HLP.out.2
              refine ⟨i + 1, v4, by omega, by omega, rfl, by go_num, hv4, hW4.out, ?_⟩
              rw [Hid, ← HS.out, show l.cs.length - m - i = (l.cs.length - m - (i + 1)) + 1 by omega, List.range'_succ, List.findSome?_cons, HRR.out]
            case measure => simp [intOf]; omega
          · rename_i o
            have HRR := Lib.hid hrr
            have hbb : (some o : Option (List Int)).isSome = true := rfl
            rw [hbb]
            clear hrr
            go_wp2_with fail
            refine ⟨hsv, ?_⟩
            refine wpAnyT_drop (k := 11) (by decide) rfl (by kernel_rfl) ?_
            simp only [List.drop_succ_cons, List.drop_zero, List.drop_nil]
            go_wp2_with fail
            go_ret
            have hres : leaveS l (m + 1) out from' = some o := by
              rw [← HS.out, show l.cs.length - m - i = (l.cs.length - m - (i + 1)) + 1 by omega, List.range'_succ, List.findSome?_cons, HRR.out]
            rw [hres]
            obtain ⟨v4, hv4, hv5⟩ := HLP.out.2
            exact ⟨rfl, hW4.out, v4, hv4, fun o' ho' => hv5 o' (by rw [HRR.out]; exact ho')⟩
      · go_wp2_with fail
        go_ret
        have hres : leaveS l (m + 1) out from' = none := by
          rw [← HS.out, show l.cs.length - m - i = 0 by omega]
          rfl
        rw [hres]
        exact ⟨rfl, HG.out, u', HU.out, fun o ho => by cases ho⟩
end Go.Proofs.Ytogdhkecpjndlaa.C

/- Leave. -/
namespace Go.Proofs.Ytogdhkecpjndlaa.C
open Go.RowKit
set_option maxRecDepth 100000

def leaveF (l : Led) : Option (List Int) := (List.range' 0 (l.cs.length + 1)).findSome? fun m => leaveS l m [] 0
def leaveL (l : Led) : List Int := if fault l = 0 then (leaveF l).getD [] else []

set_option maxHeartbeats 4000000 in
theorem Leave_c (l : Led) (A C : Option Addr) (cA cC : Nat) (w : World) (hL : LedR w l A C) (hg : l.gs.length ≤ 30) (hc : l.cs.length ≤ 30) (hs : fault l = 0 → (leaveF l).isSome = true) :
    Calls Try.prog 49 #[ledV l A C cA cC] w fun e w' => (∃ v, e = .returned (.tuple #[v, .int .i64 (fault l)]) ∧ OwnI w.heap.size w' v (leaveL l)) ∧ G w w' := by
  have HA := Lib.hid (fun w1 (hb : G w w1) => Check_c l A C cA cC w1 (hL.grow hb) hg hc)
  have HN : Hid (fault l ≠ 0 → leaveL l = []) := fun h => by unfold leaveL; rw [if_neg h]
  have HY : Hid (fault l = 0 → leaveL l = (leaveF l).getD []) := fun h => by unfold leaveL; rw [if_pos h]
  have HSS := Lib.hid hs
  clear hs
  have hmf : ∀ (fn : Fn) (first cap : Array Value) (w : World), (Instr.makeFunc fn first cap).run Try.prog w = .ok (.func fn first cap) w := fun _ _ _ _ => rfl
  go_enter Try.func49, Try.ntmps49
  go_wp2_with fail
  have hB : G w (w.alloc (.cells #[.int .i64 l.lo, .int .i64 l.hi, .slice A l.gs.length cA, .slice C l.cs.length cC] 38)) := (G.refl _).alloc _
  have q0 : Blk (w.alloc (.cells #[.int .i64 l.lo, .int .i64 l.hi, .slice A l.gs.length cA, .slice C l.cs.length cC] 38)) w.heap.size 38 #[.int .i64 l.lo, .int .i64 l.hi, .slice A l.gs.length cA, .slice C l.cs.length cC] := Blk.new _ _ _
  generalize w.alloc _ = W at *
  refine (HA.out _ hB).mono ?_
  rintro e w1 ⟨rfl, hb1⟩
  have hBB := hB.trans hb1
  by_cases h0 : fault l = 0
  · have HV := Lib.hid (valid_of h0)
    have HYY := Lib.hid (HY.out h0)
    have HS2 := Lib.hid (HSS.out h0)
    rw [h0]
    have HE := Lib.hid h0
    clear h0 HN HY HSS
    have q1 := q0.grow hb1
    go_upto_region 7 with fail
    generalize hW : (w1.alloc _).alloc _ = W2
    have g2 : G w1 W2 := by rw [← hW]; exact ((G.refl _).alloc _).alloc _
    have hz2 : W2.heap.size = w1.heap.size + 2 := by rw [← hW]; simp
    have hbf : Blk W2 w1.heap.size 30 #[.slice none 0 0] := by rw [← hW]; exact (Blk.new _ _ _).grow ((G.refl _).alloc _)
    have hbv : Blk W2 (w1.heap.size + 1) 144 #[.func (.func 93) #[] #[ptr w1.heap.size, ptr w.heap.size, ptr (w1.heap.size + 1)]] := by rw [← hW]; exact Blk.new' (by simp)
    clear hW
    have hbl := q1.grow g2
    have hlw : w.heap.size < w1.heap.size := q1.lt
    have gW2 := hBB.trans g2
    have HBL := Lib.hid hbl
    have HBV := Lib.hid hbv
    have d3 := hbl.cell 3 (v := .slice C l.cs.length cC) rfl
    have hnc := HV.out.nc
    have HLV := Lib.hid (fun m hm => leave_c (A := A) (C := C) (cA := cA) (cC := cC) (bf := w1.heap.size) (bl := w.heap.size) (bv := w1.heap.size + 1) (base := w1.heap.size + 1) HV.out hL hBB.size (by omega) (by omega) (by omega) m hm)
    have HZ2 := Lib.hid hz2
    clear hbl hbv q0 q1 hz2
    go_wp2_with fail
    go_loopw [18] (fun v18 wr => ∃ (k : Nat) (u : Value), k ≤ l.cs.length + 1 ∧ v18 = .int .i64 k ∧ Hid (Blk wr w1.heap.size 30 #[u]) ∧ Hid (W2.grownBy wr (some w1.heap.size)) ∧ Hid ((List.range' k (l.cs.length + 1 - k)).findSome? (fun m => leaveS l m [] 0) = leaveF l)) (fun v18 _ => 100 - (intOf v18).toNat)
    case atStart => exact ⟨0, _, by omega, rfl, hbf, ⟨rfl, rfl, rfl, Nat.le_refl _, fun _ _ _ => rfl⟩, rfl⟩
    case round =>
      obtain ⟨k, u, hk, rfl, HU, HG, HS⟩ := hrel
      have hbv2 : Blk wr (w1.heap.size + 1) 144 #[.func (.func 93) #[] #[ptr w1.heap.size, ptr w.heap.size, ptr (w1.heap.size + 1)]] := Blk.grown HBV.out HG.out (fun e => by injection e with e; omega)
      have e0 := hbv2.cell 0 (v := .func (.func 93) #[] #[ptr w1.heap.size, ptr w.heap.size, ptr (w1.heap.size + 1)]) rfl
      have gWr : G w wr := gW2.grown HG.out (fun j hj => by cases hj; exact hBB.size)
      by_cases hlt : k < l.cs.length + 1
      · have hkl : (k : Int) < l.cs.length + 1 := by omega
        have hcall := HLV.out k (by omega) [] 0 (.slice none 0 0) u wr gWr (OwnI.nil _ _) (by simp; omega) (by have := HG.out.size; have := HZ2.out; omega) (by omega) HU.out (Blk.grown HBL.out HG.out (fun e => by injection e with e; omega)) hbv2
        have HS3 : Hid ((List.range' k (l.cs.length + 1 - k)).findSome? (fun m => leaveS l m [] 0) = match leaveS l k [] 0 with | some o => some o | none => (List.range' (k + 1) (l.cs.length + 1 - (k + 1))).findSome? (fun m => leaveS l m [] 0)) := by
          unfold Hid
          rw [show l.cs.length + 1 - k = (l.cs.length + 1 - (k + 1)) + 1 by omega, List.range'_succ, List.findSome?_cons]
          cases leaveS l k [] 0 <;> rfl
        cases hrr : leaveS l k [] 0
        · rw [hrr] at hcall
          have HRR := Lib.hid hrr
          clear hrr
          go_wp2_with fail
          refine hcall.mono ?_
          rintro e w4 ⟨rfl, hLP⟩
          have HLP := Lib.hid hLP
          have hbb : (none : Option (List Int)).isSome = false := rfl
          rw [hbb]
          clear hLP
          go_wp2_with fail
          go_roundw
          case rel =>
            obtain ⟨v4, hv4, -⟩ := HLP.out.2
            refine ⟨k + 1, v4, by omega, by go_num, hv4, grownBy_trans HG.out HLP.out.1, ?_⟩
            have h := HS3.out
            rw [HRR.out, HS.out] at h
            exact h.symm
          case measure => simp [intOf]; omega
        · rename_i o
          rw [hrr] at hcall
          have HRR := Lib.hid hrr
          clear hrr
          go_wp2_with fail
          refine hcall.mono ?_
          rintro e w4 ⟨rfl, hLP⟩
          obtain ⟨hg4, v4, hv4, ho4⟩ := hLP
          have HO4 := Lib.hid (ho4 o rfl)
          have f0 := hv4.cell 0 (v := v4) rfl
          have gW4 : G w w4 := gWr.grown hg4 (fun j hj => by cases hj; exact hBB.size)
          have hbb : (some o : Option (List Int)).isSome = true := rfl
          rw [hbb]
          clear ho4 hv4
          go_wp2_with fail
          go_ret2
          have h := HS3.out
          rw [HRR.out, HS.out] at h
          have h2 : leaveL l = o := by rw [HYY.out, h]; rfl
          exact ⟨⟨v4, by simp [HE.out], by rw [h2]; exact OwnI.lower HO4.out (by have := hBB.size; omega)⟩, gW4⟩
      · exfalso
        have h := HS.out
        rw [show l.cs.length + 1 - k = 0 by omega] at h
        have h2 := HS2.out
        rw [← h] at h2
        simp at h2
  · have HCN := Lib.hid (HN.out h0)
    generalize hE : fault l = E at *
    have HE := Lib.hid hE
    clear hE HN HY HSS
    go_wp2_with fail
    go_ret2
    exact ⟨⟨.slice none 0 0, by simp [HE.out], by rw [HCN.out]; exact OwnI.nil _ _⟩, hBB⟩
end Go.Proofs.Ytogdhkecpjndlaa.C

/- Plain: the search of Leave finds something. -/
namespace Go.Proofs.Ytogdhkecpjndlaa.C

theorem rightBut_all (l : Led) (c : Cn) (out : List Int) : ∀ (xs : List T3) (i : Nat), (∀ j : Nat, i ≤ j → j < i + xs.length → 0 ≤ idx (j : Int) out 0) → rightBut l c out i xs = true
  | [], _, _ => rfl
  | x :: xs, i, h => by
    rw [rightBut, rightBut_all l c out xs (i + 1) (fun j h1 h2 => h j (by omega) (by simp; omega))]
    simp [h i (Nat.le_refl _) (by simp)]
theorem countsL_ne {l : Led} (hV : Valid l) : countsL l ≠ [] := by
  have hch : ∀ gs : List T3, (∀ g ∈ gs, g.lo ≤ g.hi) → choices gs ≠ [] := by
    intro gs
    induction gs with
    | nil => intro _; simp [choices]
    | cons g gs ih =>
      intro h
      have h1 := ih (fun x hx => h x (by simp [hx]))
      have h2 := h g (by simp)
      obtain ⟨t, ht⟩ := List.exists_mem_of_ne_nil _ h1
      intro e
      have hm : (g.lo + ((0 : Nat) : Int)) :: t ∈ choices (g :: gs) := by
        rw [choices]
        simp only [List.mem_flatMap, List.mem_map, List.mem_range]
        exact ⟨0, by unfold steps sz; omega, t, ht, rfl⟩
      rw [e] at hm
      simp at hm
  obtain ⟨t, ht⟩ := List.exists_mem_of_ne_nil _ (hch l.gs (fun g hg => (hV.g g hg).2.2.2.1))
  intro e
  have hm : (⟨l.lo, t⟩ : Cn) ∈ countsL l := by
    unfold countsL rates countsAt
    simp only [List.mem_flatMap, List.mem_map, List.mem_range]
    exact ⟨l.lo, ⟨0, by have := hV.r1; omega, by simp⟩, t, ht, rfl⟩
  rw [e] at hm
  simp at hm

theorem idx_pos {xs : List Int} {v : Int} (h : v ∈ xs) : 0 ≤ idx v xs 0 := by
  obtain ⟨j, hj, -⟩ := idx_spec xs v 0 h
  omega
theorem anyR_all {l : Led} (hV : Valid l) (out : List Int) (h : ∀ j : Nat, j < l.cs.length → (j : Int) ∈ out) : anyR l out = true := by
  obtain ⟨c, hc⟩ := List.exists_mem_of_ne_nil _ (countsL_ne hV)
  unfold anyR
  rw [List.any_eq_true]
  exact ⟨c, hc, rightBut_all l c out l.cs 0 (fun j _ hj => idx_pos (h j (by omega)))⟩
theorem leaveS_all {l : Led} (hV : Valid l) : ∀ (m from' : Nat) (out : List Int), from' + m = l.cs.length → (∀ j : Nat, j < from' → (j : Int) ∈ out) → (leaveS l m out from').isSome = true
  | 0, from', out, h, ho => by
    rw [leaveS, anyR_all hV out (fun j hj => ho j (by omega))]
    rfl
  | m + 1, from', out, h, ho => by
    rw [leaveS, show l.cs.length - m - from' = 0 + 1 by omega, List.range'_succ, List.findSome?_cons]
    have := leaveS_all hV m (from' + 1) (out ++ [(from' : Int)]) (by omega) (fun j hj => by
      by_cases h1 : j < from'
      · exact List.mem_append_left _ (ho j h1)
      · have : j = from' := by omega
        subst this
        simp)
    obtain ⟨o, ho2⟩ := Option.isSome_iff_exists.1 this
    rw [ho2]
    rfl
theorem leaveF_some {l : Led} (hf : fault l = 0) : (leaveF l).isSome = true := by
  have hV := valid_of hf
  unfold leaveF
  rw [List.findSome?_isSome_iff]
  exact ⟨l.cs.length, by simp [List.mem_range'], leaveS_all hV _ 0 [] (by omega) (fun j hj => by omega)⟩
end Go.Proofs.Ytogdhkecpjndlaa.C
