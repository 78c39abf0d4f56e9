/- The law GrowerCounted, walked. -/
import Derived.Test.YtogdhkecpjndlaaW14
import Derived.Test.YtogdhkecpjndlaaA2
set_option linter.unusedSimpArgs false
set_option linter.unusedVariables false
namespace Go.Proofs.Ytogdhkecpjndlaa.C
open Go.RowKit
set_option maxRecDepth 100000

theorem some_ne (l : Led) : l.gs.length ≠ 0 → l.gs ≠ [] := fun h e => h (by rw [e]; rfl)

set_option maxHeartbeats 16000000 in
theorem GrowerCounted_c {l : Led} {A C : Option Addr} {cA cC : Nat} {a : Int} {w : World} (hL : LedR w l A C) (ha : (Lit.int .u8 a).wf = true) :
    Calls Try.prog 12 #[ledV l A C cA cC, .int .u8 a] w fun e w' => e = .returned (.bool true) ∧ G w w' := by
  have HL := Lib.hid hL
  have ha2 : 0 ≤ a ∧ a ≤ 255 := by simpa [Lit.wf, IntKind.min, IntKind.max, IntKind.signed, IntKind.bits] using ha
  clear hL ha
  obtain ⟨t, rfl⟩ : ∃ t : Nat, a = t := ⟨a.toNat, by omega⟩
  have ht : t < 256 := by omega
  clear ha2
  cases hr : readyB l
  · go_enter Try.func12, Try.ntmps12
    go_wp2_with fail
    have hB : G w (w.alloc (.cells #[.int .i64 l.lo, .int .i64 l.hi, .slice A l.gs.length cA, .slice C l.cs.length cC] 27)) := (G.refl _).alloc _
    generalize w.alloc _ = W at *
    refine (ready_c (HL.out.grow hB)).mono ?_
    rw [hr]
    rintro e w1 ⟨rfl, hb1⟩
    clear hr
    go_wp2_with fail
    refine (awake_c w1).mono ?_
    rintro e w2 ⟨rfl, hb2⟩
    go_wp2_with fail
    go_ret
    exact ⟨rfl, hB.trans (hb1.trans hb2)⟩
  obtain ⟨hg, hc, hf, hV⟩ := readyB_iff hr
  have HV := Lib.hid hV
  have HF := Lib.hid hf
  have hng := hV.ng
  have hnc := hV.nc
  clear hf hV
  go_enter Try.func12, Try.ntmps12
  go_wp2_with fail
  have hB : G w (w.alloc (.cells #[.int .i64 l.lo, .int .i64 l.hi, .slice A l.gs.length cA, .slice C l.cs.length cC] 27)) := (G.refl _).alloc _
  have k0 := LBox.one (w := w) (l := l) (A := A) (C := C) (cA := cA) (cC := cC)
  generalize w.alloc _ = W0 at *
  refine (ready_c (HL.out.grow hB)).mono ?_
  rw [hr]
  rintro e W ⟨rfl, hb1⟩
  have HK := Lib.hid (k0.grow hb1)
  replace hB := hB.trans hb1
  clear hr hb1 k0
  obtain ⟨s0, s1, s2, s3⟩ := HK.out
  by_cases hn0 : l.gs.length = 0
  · have hz : (((l.gs.length : Nat) : Int) == 0) = true := by simp [hn0]
    clear hn0
    go_wp2_with fail
    refine (awake_c W).mono ?_
    rintro e w99 ⟨rfl, hb99⟩
    go_wp2_with fail
    go_ret
    exact ⟨rfl, (hB).trans hb99⟩
  have hz : (((l.gs.length : Nat) : Int) == 0) = false := beq_eq_false_iff_ne.2 (by omega)
  -- Ledger of l A C cA cC (its LedR HL.out.grow hB at the world W), to w2 by hb2; lengths by omega; HX: the new LedR
  go_wp2_with fail
  refine (Ledger_c l A C cA cC W (HL.out.grow hB) (by omega) (by omega)).mono ?_
  rintro e w2 ⟨⟨AX, CX, cAX, cCX, rfl, hLX, hcA, hcC⟩, hb2⟩
  have HX := Lib.hid hLX
  clear hLX
  go_wp2_with fail
  clear hz
  refine (Ask_c l AX CX cAX cCX w2 HX.out hg hc).mono ?_
  rintro e w3 ⟨rfl, hb3⟩
  have hb23 := hb2.trans hb3
  -- box kept over hb23; growth hB renewed to g3
  replace HK := Lib.hid (HK.out.grow hb23)
  have g3 := (hB).trans hb23
  clear s0 s1 s2 s3
  obtain ⟨s0, s1, s2, s3⟩ := HK.out
  clear HX hcA hcC hb2 hb3 hb23 hB
  go_wp2_with fail
  refine (Truths_c (cA := cA) (cC := cC) HV.out (HL.out.grow g3)).mono ?_
  rintro e w8 ⟨⟨T, cT, rfl, hT⟩, hb6⟩
  have HT := Lib.hid hT
  -- box kept over hb6; growth g3 renewed to g8
  replace HK := Lib.hid (HK.out.grow hb6)
  have g8 := (g3).trans hb6
  clear s0 s1 s2 s3
  obtain ⟨s0, s1, s2, s3⟩ := HK.out
  clear hb6 g3 hT
  by_cases he : askErr l true = 0
  · obtain ⟨hV, hp, hne, htn, hcok, hat⟩ := truth_facts he
    have hlT := refTruths_len hV
    obtain ⟨g, hg1, hgl, hg2, hg3, hg4⟩ := ask_facts he (by omega)
    have HMIN := Lib.hid hg4
    have hl0 : ((((refTruths l).length : Nat) : Int) == 0) = false := by
      cases hh : refTruths l with
      | nil => exact absurd hh htn
      | cons y ys => simp; omega
    have HLN := Lib.hid (fun c (h : c ∈ refTruths l) => (hcok c h).len)
    have HLO := Lib.hid (leavesTo_lo HV.out hgl)
    have HLA := Lib.hid (leaves_all HV.out hgl)
    have HSM := Lib.hid (fun (k : Nat) (h1 : l.gs[g].lo ≤ k) (h2 : (k : Int) ≤ l.gs[g].hi) => setG_many HV.out hgl h1 h2)
    have HSV := Lib.hid (fun (k : Int) (h1 : l.gs[g].lo ≤ k) (h2 : k ≤ l.gs[g].hi) => setG_valid HV.out hgl h1 h2)
    have hgv := HV.out.g l.gs[g] (List.getElem_mem hgl)
    have HCL := Lib.hid (fun n => refLeavesTo_le (refTruths l) g n)
    obtain ⟨bg, og, rfl, d0, d1, d2⟩ := HL.out.g.at hgl
    rw [hg1, hg2, hg3]
    have hin : inB (g : Int) 0 ((l.gs.length : Int) - 1) = true := inB_iff.2 (by omega)
    have hlw : IntKind.i64.wrap ((l.gs.length : Int) - 1) = (l.gs.length : Int) - 1 := IntWalk.i64_in _ (by omega)
    clear hV hp hne htn hat he hcok hg1 hg2 hg3 hg4
    have e1 := g8.cell d1
    have e2 := g8.cell d2
    clear d0 d1 d2
    have HGS := Lib.hid (fun (k : Int) => (show (setG l g k).gs = l.gs.set g ⟨l.gs[g].a, k, k⟩ by show l.gs.set g ⟨l.adv g, k, k⟩ = _; rw [Led.adv_eq hgl]))
    generalize hlo : l.gs[g].lo = lo at *
    generalize hhi : l.gs[g].hi = hi at *
    clear hlo hhi
    go_wp2_with fail
    refine (In_c _ _ _ _).mono ?_
    rw [hin]
    rintro e w9 ⟨rfl, rfl⟩
    go_upto_region 11 with fail
    have n5 : Blk (w8.alloc (.cells #[.int .i64 lo, .int .i64 hi] 23)) w8.heap.size 23 #[.int .i64 lo, .int .i64 hi] := Blk.new _ _ _
    have hg5 := (G.refl w8).alloc (.cells #[.int .i64 lo, .int .i64 hi] 23)
    replace HT := Lib.hid (HT.out.grow hg5)
    generalize hm5 : w8.heap.size = m5 at *
    generalize hv6 : w8.alloc _ = v6 at *
    clear hv6 hm5 hin hlw hl0 e1 e2
    -- box kept over hg5; growth g8 renewed to g9
    replace HK := Lib.hid (HK.out.grow hg5)
    have g9 := (g8).trans hg5
    clear s0 s1 s2 s3
    obtain ⟨s0, s1, s2, s3⟩ := HK.out
    have HF0 := Lib.hid (n5.cell 0 rfl)
    have HF1 := Lib.hid (n5.cell 1 rfl)
    clear hg5 g8 n5
    have f0 := HF0.out
    go_wp2_with fail
    clear f0 s0 s1 s2 s3
    obtain ⟨lk, rfl⟩ : ∃ lk : Nat, lo = lk := ⟨lo.toNat, by omega⟩
    go_loopw [9, 11] (fun v9 v11 wr => ∃ (k : Nat), (lk : Int) ≤ k ∧ (k : Int) ≤ hi + 1 ∧ v11 = .int .i64 k ∧ v9 = .int .i64 (refLeavesTo (refTruths l) g k) ∧ G v6 wr) (fun _ v11 _ => (20 - intOf v11).toNat)
    case atStart => exact ⟨lk, by omega, by omega, rfl, by rw [HLO.out lk (Int.le_refl _)]; rfl, G.refl _⟩
    case round =>
      obtain ⟨k, hk0, hk1, rfl, rfl, hbr⟩ := hrel
      have f1 := hbr.cell HF1.out
      have gw := g9.trans hbr
      by_cases hlt : (k : Int) ≤ hi
      · have HSK := Lib.hid (HSM.out k hk0 hlt)
        have HSW := Lib.hid (HSV.out k hk0 hlt)
        have HRL := Lib.hid (show refLeavesTo (refTruths l) g (k + 1) = max (refLeavesTo (refTruths l) g k) (cntB (refTruths l) g k) from rfl)
        have hm2 := HCL.out k
        have hm3 : cntB (refTruths l) g k ≤ (refTruths l).length := cntC_le _ _
        have HGK := Lib.hid (HGS.out k)
        generalize hmm : refLeavesTo (refTruths l) g k = m at *
        generalize hcc : cntB (refTruths l) g k = cb at *
        clear hmm hcc
        obtain ⟨s0, s1, s2, s3⟩ := HK.out.grow hbr
        go_upto_region 15 with fail
        have nx : Blk (wr.alloc (.cells #[.int .i64 l.lo, .int .i64 l.hi, .slice (some ⟨bg, og, none⟩) l.gs.length cA, .slice C l.cs.length cC] 27)) wr.heap.size 27 #[.int .i64 l.lo, .int .i64 l.hi, .slice (some ⟨bg, og, none⟩) l.gs.length cA, .slice C l.cs.length cC] := Blk.new _ _ _
        have gx := (G.refl wr).alloc (.cells #[.int .i64 l.lo, .int .i64 l.hi, .slice (some ⟨bg, og, none⟩) l.gs.length cA, .slice C l.cs.length cC] 27)
        generalize hV : wr.alloc _ = V at *
        clear hV
        clear s0 s1 s2 s3 f1
        obtain ⟨s0, s1, s2, s3⟩ := HK.out.grow (hbr.trans gx)
        have hxs := gx.size
        have hxl := nx.lt
        have hwl := cell_lt s2
        have hwn : ¬ V.heap.size = w.heap.size := by omega
        have hwn2 : ¬ w.heap.size = V.heap.size := by omega
        go_upto_region 16 with (at_builtin; refine app_3r 24 86 und24 info86 V.heap.size rfl _ _ rfl _ [] l.gs rfl (some ⟨bg, og, none⟩) l.gs.length cA rfl rfl ((HL.out.g.grow (gw.trans gx)).grow ((G.refl _).alloc _)) (Own3.empty 86 V) (by simp) (by simp) (by omega) ?_; intro v1 w1 h1 h2 h3; obtain ⟨A1, c1, rfl, -, -⟩ := h1.row; have n1 := Blk.grown (nx.grow ((G.refl V).alloc (.cells #[] 86))) h2 (fun e => by have e2 : some wr.heap.size = some V.heap.size := e; injection e2; omega); have u2 := n1.cell 2 (v := .slice (some ⟨bg, og, none⟩) l.gs.length cA) rfl; have z2 := n1.frozen 2)
        obtain ⟨g1, rfl, hb1, hl1, hc1, hz1⟩ := Own3.open h1 (by simpa using some_ne l hn0)
        rw [List.nil_append] at h1 hc1
        have gV : G wr w1 := ((gx.alloc (.cells #[] 86)).grown h2 (fun q hq => by have e2 : some V.heap.size = some q := hq; injection e2; omega))
        have HO1 := Lib.hid h1
        clear h1 h2 h3 u2 z2 nx hc1 hz1 s0 s1 s2 s3 hxs
        have hne1 : wr.heap.size ≠ g1 := by omega
        have n2 := n1.set 2 (.slice (some ⟨g1, 0, none⟩) l.gs.length c1)
        have HO2 := Lib.hid (show Own3 86 V.heap.size (w1.setCell ⟨wr.heap.size, 2, none⟩ (.slice (some ⟨g1, 0, none⟩) l.gs.length c1)) (.slice (some ⟨g1, 0, none⟩) l.gs.length c1) l.gs from own_block HO1.out (fun q hq => Below.heap_setCell _ _ _ _ (by have e2 : some g1 = some q := hq; injection e2; show q ≠ wr.heap.size; omega)))
        have gV2 := gV.setCell (p := ⟨wr.heap.size, 2, none⟩) (Nat.le_refl _) (.slice (some ⟨g1, 0, none⟩) l.gs.length c1)
        clear HO1 n1 gV
        generalize w1.setCell _ _ = w2 at *
        obtain ⟨g2, e2, -, -, hc2, hz2⟩ := Own3.open HO2.out (some_ne l hn0)
        cases e2
        obtain ⟨-, q1, q2⟩ := hc2 g l.gs[g] (List.getElem?_eq_getElem hgl)
        have z1 := hz2 (g * 3 + 1)
        have z2 := hz2 (g * 3 + 2)
        have x0 := n2.cell 0 (v := .int .i64 l.lo) rfl
        have x1 := n2.cell 1 (v := .int .i64 l.hi) rfl
        have x2 := n2.cell 2 (v := .slice (some ⟨g1, 0, none⟩) l.gs.length c1) rfl
        have x3 := n2.cell 3 (v := .slice C l.cs.length cC) rfl
        clear hc2 hz2
        go_upto_region 17 with fail
        have HO3 := Lib.hid (show Own3 86 V.heap.size ((w2.setCell ⟨g1, g * 3 + 1, none⟩ (.int .i64 (k : Int))).setCell ⟨g1, g * 3 + 1 + 1, none⟩ (.int .i64 (k : Int))) (.slice (some ⟨g1, 0, none⟩) l.gs.length c1) (setG l g k).gs by rw [HGK.out]; exact Own3.setr HO2.out hgl k k)
        have n3 := (n2.far (p := ⟨g1, g * 3 + 1, none⟩) hne1 (.int .i64 (k : Int))).far (p := ⟨g1, g * 3 + 1 + 1, none⟩) hne1 (.int .i64 (k : Int))
        have gV3 := (gV2.setCell (p := ⟨g1, g * 3 + 1, none⟩) (by show wr.heap.size ≤ g1; omega) (.int .i64 (k : Int))).setCell (p := ⟨g1, g * 3 + 1 + 1, none⟩) (by show wr.heap.size ≤ g1; omega) (.int .i64 (k : Int))
        clear HO2 n2 gV2 x0 x1 x2 x3 q1 q2 z1 z2
        generalize (w2.setCell _ _).setCell _ _ = w3 at *
        have hsl : (setG l g k).gs.length = l.gs.length := List.length_set
        obtain ⟨A5, c5, e5, -, hrow⟩ := HO3.out.row
        injection e5 with e5 e6 e7
        subst e5
        have hcall := Truths_c (l := setG l g k) (A := some ⟨g1, 0, none⟩) (C := C) (cA := c1) (cC := cC) (w := w3) HSW.out ⟨hrow, HL.out.c.grow (gw.trans gV3)⟩
        unfold ledV at hcall
        rw [hsl] at hcall
        have x0 := n3.cell 0 (v := .int .i64 l.lo) rfl
        have x1 := n3.cell 1 (v := .int .i64 l.hi) rfl
        have x2 := n3.cell 2 (v := .slice (some ⟨g1, 0, none⟩) l.gs.length c1) rfl
        have x3 := n3.cell 3 (v := .slice C l.cs.length cC) rfl
        clear hsl e6 e7 hrow HO3 n3
        go_wp2_with fail
        refine hcall.mono ?_
        rw [HSK.out]
        rintro e w4 ⟨⟨T4, cT4, rfl, -⟩, hb4⟩
        have gF := hbr.trans (gV3.trans hb4)
        clear hcall x0 x1 x2 x3
        by_cases hmc : m < cb
        · have hmi : (m : Int) < (cb : Int) := by omega
          have HRX := Lib.hid (show refLeavesTo (refTruths l) g (k + 1) = cb by rw [HRL.out]; omega)
          go_wp2_with fail
          go_roundw
          case rel => exact ⟨k + 1, by omega, by omega, by go_num, by rw [HRX.out], gF⟩
          case measure => simp [intOf] <;> omega
        · have hmi : ¬ (m : Int) < (cb : Int) := by omega
          have HRX := Lib.hid (show refLeavesTo (refTruths l) g (k + 1) = m by rw [HRL.out]; omega)
          go_wp2_with fail
          go_roundw
          case rel => exact ⟨k + 1, by omega, by omega, by go_num, by rw [HRX.out], gF⟩
          case measure => simp [intOf] <;> omega
      · have hkk : (k : Int) = hi + 1 := by omega
        have hk3 : k = hi.toNat + 1 := by omega
        rw [hk3, HLA.out]
        have hq : (((refLeaves (refTruths l) g : Nat) : Int) == (refLeaves (refTruths l) g : Nat)) = true := by simp
        obtain ⟨o, hoo⟩ : ∃ o : Nat, t % l.gs.length = o := ⟨_, rfl⟩
        have htm := tmod_nat hoo
        have hol : o < l.gs.length := by rw [← hoo]; exact Nat.mod_lt _ (by omega)
        have hnz : ¬ ((l.gs.length : Int) = 0) := by omega
        have hw1 : IntKind.i64.wrap (t : Int) = t := IntWalk.i64_in _ (by omega)
        have hw2 : IntKind.i64.wrap (o : Int) = o := IntWalk.i64_in _ (by omega)
        have hle := HMIN.out o hol
        have hle2 : ((refLeaves (refTruths l) g : Nat) : Int) ≤ (refLeaves (refTruths l) o : Nat) := by omega
        have hcall := RLeaves_c (cT := cT) (g := o) (w := wr) (HT.out.grow hbr) (fun c h => by rw [HLN.out c h]; exact hol) (by omega)
        obtain ⟨s0, s1, s2, s3⟩ := HK.out.grow hbr
        generalize refLeaves (refTruths l) g = m1 at *
        generalize refLeaves (refTruths l) o = m2 at *
        rw [← hk3]
        have hk4 : ¬ (k : Int) ≤ hi := hlt
        clear hoo hkk hk3 hle
        go_wp2_with fail
        refine hcall.mono ?_
        rintro e w4 ⟨rfl, hb4⟩
        clear htm hw1 hw2
        have g10 := gw.trans hb4
        go_wp2_with fail
        refine (awake_c w4).mono ?_
        rintro e w99 ⟨rfl, hb99⟩
        go_wp2_with fail
        go_ret
        exact ⟨rfl, (g10).trans hb99⟩
  · have h11 : askErr l true = 11 := by
      have h := askErr_any HV.out
      split at h
      · exact absurd h he
      · exact h
    have hnil : refTruths l = [] := by
      rw [refTruths_nil HV.out]
      refine Classical.byContradiction fun hne => he (askErr_of HV.out hne)
    rw [askL_err he, h11, hnil]
    clear he h11 hnil HT
    go_wp2_with fail
    refine (awake_c w8).mono ?_
    rintro e w99 ⟨rfl, hb99⟩
    go_wp2_with fail
    go_ret
    exact ⟨rfl, (g8).trans hb99⟩
end Go.Proofs.Ytogdhkecpjndlaa.C
