/- Texts joined: C6 C7 C8 C9 P1 C10 C11 P2. -/
import Derived.Test.YtogdhkecpjndlaaGA
import Derived.Laws.CopyOwn
import Derived.StillTailTactics
import Derived.BigRegion
import Derived.Deep.OwnRows
set_option linter.unusedSimpArgs false
set_option linter.unusedVariables false
/- What all growers are owed; counts; Play, ProveTruth. -/
namespace Go.Proofs.Ytogdhkecpjndlaa.C
open Go.RowKit
set_option maxRecDepth 10000

set_option maxHeartbeats 2000000 in
theorem dues_c (l : Led) (A C : Option Addr) (cA cC : Nat) (c : Cn) (w : World) (hV : Valid l) (hK : CntOk l c) (hG : Row3 w A l.gs) :
    Calls Try.prog 80 #[ledV l A C cA cC, cntV c] w fun e w' => (∃ v, e = .returned v ∧ OwnI w.heap.size w' v (dues l c)) ∧ G w w' := by
  have HL := Lib.hid hG
  have HV := Lib.hid hV
  have HK := Lib.hid hK
  have hng := hV.ng
  clear hG hV hK
  go_enter Try.func80, Try.ntmps80
  go_wp2
  generalize hW : (w.alloc _).alloc _ = W
  obtain ⟨hB, k1, k2⟩ := boxes2 hW
  have HLc := Lib.hid k1
  have HCc := Lib.hid k2
  clear hW k1 k2
  go_loopw [4, 9] (fun v4 v9 wr => ∃ k : Nat, k ≤ l.gs.length ∧ v9 = .int .i64 k ∧ Hid (OwnI W.heap.size wr v4 ((List.range k).map (owed l c))) ∧ G W wr) (fun _ v9 _ => l.gs.length - (intOf v9).toNat)
  case atStart => exact ⟨0, by omega, rfl, OwnI.nil _ _, G.refl _⟩
  case round =>
    obtain ⟨k, hk, rfl, HO, hbr⟩ := hrel
    by_cases hlt : k < l.gs.length
    · have f0 : wr.cell? ⟨w.heap.size, 0, none⟩ = some (.int .i64 l.lo) := hbr.cell (HLc.out 0 _ rfl)
      have f1 : wr.cell? ⟨w.heap.size, 1, none⟩ = some (.int .i64 l.hi) := hbr.cell (HLc.out 1 _ rfl)
      have f2 : wr.cell? ⟨w.heap.size, 2, none⟩ = some (.slice A l.gs.length cA) := hbr.cell (HLc.out 2 _ rfl)
      have f3 : wr.cell? ⟨w.heap.size, 3, none⟩ = some (.slice C l.cs.length cC) := hbr.cell (HLc.out 3 _ rfl)
      have f4 : wr.cell? ⟨w.heap.size + 1, 0, none⟩ = some (.int .i64 c.r) := hbr.cell (HCc.out 0 _ rfl)
      have f5 : wr.cell? ⟨w.heap.size + 1, 1, none⟩ = some (.int .i64 (c.b 0)) := hbr.cell (HCc.out 1 _ rfl)
      have f6 : wr.cell? ⟨w.heap.size + 1, 2, none⟩ = some (.int .i64 (c.b 1)) := hbr.cell (HCc.out 2 _ rfl)
      have f7 : wr.cell? ⟨w.heap.size + 1, 3, none⟩ = some (.int .i64 (c.b 2)) := hbr.cell (HCc.out 3 _ rfl)
      have f8 : wr.cell? ⟨w.heap.size + 1, 4, none⟩ = some (.int .i64 (c.b 3)) := hbr.cell (HCc.out 4 _ rfl)
      go_wp2_with fail
      refine (owedV_c HV.out HK.out (HL.out.grow (hB.trans hbr)) hlt).mono ?_; rintro e w1 ⟨rfl, hb1⟩
      go_wp2_with (at_builtin; refine app_i W.heap.size rfl _ _ rfl _ _ (owed l c k) rfl w1.heap.size rfl (newCell _ _ _ _ rfl) (HO.out.grow (hb1.alloc _)) ((hbr.trans hb1).alloc _).size (by simp; omega) ?_; intro v1 w2 hown1 hg1 _)
      have HO2 := Lib.hid hown1
      have hb2 : G W w2 := ((hbr.trans hb1).alloc _).grown hg1 HO.out.base
      clear hown1 hg1
      go_wp2
      go_roundw
      case rel => exact ⟨k + 1, by omega, by go_num, by rw [List.range_succ, List.map_append]; exact HO2.out, hb2⟩
      case measure => simp [intOf]; omega
    · obtain rfl : k = l.gs.length := by omega
      go_wp2
      go_ret
      exact ⟨⟨_, rfl, OwnI.lower HO.out hB.size⟩, hB.trans hbr⟩
end Go.Proofs.Ytogdhkecpjndlaa.C

/- Counts; Play, ProveTruth. -/
namespace Go.Proofs.Ytogdhkecpjndlaa.C
open Go.RowKit
set_option maxRecDepth 10000

abbrev cntArg (x : Cn) (B : Option Addr) (cB : Nat) : Value := .agg #[.int .i64 x.r, .slice B x.bs.length cB]

theorem splice_cnt (x : Cn) (h : x.bs.length ≤ 4) : splice [.int .i64 x.r, .int .i64 0, .int .i64 0, .int .i64 0, .int .i64 0] 1 (ints x.bs) = [.int .i64 x.r, .int .i64 (x.b 0), .int .i64 (x.b 1), .int .i64 (x.b 2), Value.int .i64 (x.b 3)] := by
  obtain ⟨r, bs⟩ := x
  match bs, h with
  | [], _ => rfl
  | [_], _ => rfl
  | [_, _], _ => rfl
  | [_, _, _], _ => rfl
  | [_, _, _, _], _ => rfl

set_option maxHeartbeats 2000000 in
theorem count_yes (l : Led) (A C B : Option Addr) (cA cC cB : Nat) (x : Cn) (w : World) (hV : Valid l) (hG : Row3 w A l.gs) (hB : RowI w B x.bs) (hx : isCnt l x = true) :
    Calls Try.prog 109 #[ledV l A C cA cC, cntArg x B cB] w fun e w' => e = .returned (.tuple #[cntV x, .bool true]) ∧ G w w' := by
  have HL := Lib.hid hG
  have HX := Lib.hid hB
  have hng := hV.ng
  simp only [isCnt, Bool.and_eq_true, decide_eq_true_eq] at hx
  obtain ⟨hx0, hx1, hx2⟩ := hx
  have HE := Lib.hid hx1
  have HO := Lib.hid hx2
  have hxl : x.bs.length ≤ 4 := by omega
  have hne : ((x.bs.length : Int) != (l.gs.length : Int)) = false := by simp [hx1]
  clear hG hV hB hx1 hx2
  go_enter Try.func109, Try.ntmps109
  go_wp2_with fail
  generalize hW : ((w.alloc _).alloc _).alloc _ = W
  obtain ⟨hB, k1, k2, k3⟩ := boxes3 hW
  have HLc := Lib.hid k1
  have HCc := Lib.hid k2
  have HB4 := Lib.hid (show Blk W (w.heap.size + 1 + 1) 128 #[.int .i64 0, .int .i64 0, .int .i64 0, .int .i64 0, .int .i64 0] from hW ▸ Blk.new' (by simp))
  clear hW k1 k2 k3
  refine (has_c _ _ _ _).mono ?_; rintro e w1 ⟨rfl, hb1⟩
  have f2 : w1.cell? ⟨w.heap.size, 2, none⟩ = some (.slice A l.gs.length cA) := hb1.cell (HLc.out 2 _ rfl)
  have f5 : w1.cell? ⟨w.heap.size + 1, 1, none⟩ = some (.slice B x.bs.length cB) := hb1.cell (HCc.out 1 _ rfl)
  go_wp2
  go_loopw [27] (fun v27 wr => ∃ k : Nat, k ≤ x.bs.length ∧ v27 = .int .i64 k ∧ G w1 wr) (fun v27 _ => x.bs.length - (intOf v27).toNat)
  case atStart => exact ⟨0, by omega, rfl, G.refl _⟩
  case round =>
    obtain ⟨k, hk, rfl, hbr⟩ := hrel
    by_cases hlt : k < x.bs.length
    · have hltg : k < l.gs.length := by rw [← HE.out]; exact hlt
      obtain ⟨b, off, rfl, d0, d1, d2⟩ := HL.out.at hltg
      obtain ⟨b', off', rfl, d3⟩ := HX.out.at hlt
      have e0 := hbr.cell (hb1.cell (hB.cell d0))
      have e1 := hbr.cell (hb1.cell (hB.cell d1))
      have e2 := hbr.cell (hb1.cell (hB.cell d2))
      have e3 := hbr.cell (hb1.cell (hB.cell d3))
      have e4 := hbr.cell f2
      have hin := okBs_at x.bs l.gs k hlt hltg HO.out
      clear d0 d1 d2 d3
      go_wp2_with fail
      refine (has_c _ _ _ _).mono ?_; rintro e w2 ⟨rfl, hb2⟩
      go_wp2
      go_roundw
      case rel => exact ⟨k + 1, by omega, by go_num, hbr.trans hb2⟩
      case measure => simp [intOf]; omega
    · have e5 := hbr.cell f5
      have e6 : wr.cell? ⟨w.heap.size + 1, 0, none⟩ = some (.int .i64 x.r) := hbr.cell (hb1.cell (HCc.out 0 _ rfl))
      have HB5 := Lib.hid (HB4.out.grow (hb1.trans hbr))
      have e7 : wr.cell? ⟨w.heap.size + 1 + 1, 0, none⟩ = some (.int .i64 0) := HB5.out.cell 0 rfl
      have e8 := HB5.out.frozen 0
      go_wp2
      generalize hZ : wr.setCell _ _ = Z
      have hBZ : G w Z := hZ ▸ (hB.trans (hb1.trans hbr)).setCell (by simp; omega) _
      have HB6 := Lib.hid (show Blk Z (w.heap.size + 1 + 1) 128 #[.int .i64 x.r, .int .i64 0, .int .i64 0, .int .i64 0, .int .i64 0] from hZ ▸ HB5.out.set 0 _)
      have e5 : Z.cell? ⟨w.heap.size + 1, 1, none⟩ = some (.slice B x.bs.length cB) := by rw [← hZ]; exact (World.cell?_setCell_other _ _ _ _ (by simp)).trans e5
      have HXZ := Lib.hid (HX.out.grow hBZ)
      clear hZ e6 e7 e8
      go_still_tail 4, (by kernel_rfl)
      change wpList _ _ _ _ _ Z.drew
      refine wpList_copy_splice rfl _ _ 30 30 rfl 3 Try.underlying30 (by kernel_rfl) (some ⟨w.heap.size + 1 + 1, 1, none⟩) B 4 4 x.bs.length cB rfl rfl (w.heap.size + 1 + 1) 1 [.int .i64 x.r, .int .i64 0, .int .i64 0, .int .i64 0, .int .i64 0] 128 HB6.out (ints x.bs)
        (by simp only [ints, List.length_map]; exact (Nat.min_eq_left hxl).symm) (fun hp => ⟨rfl, RowI.src HXZ.out (by simpa [ints] using hp)⟩) (by simp only [ints, List.length_map, List.length_cons, List.length_nil]; omega) (by simp [ints, Value.oneCell']) w.heap.size w hBZ.drew (by omega) ?_
      intro w3 HB7 hB3
      have HB8 := Lib.hid (show Blk w3 (w.heap.size + 1 + 1) 128 #[.int .i64 x.r, .int .i64 (x.b 0), .int .i64 (x.b 1), .int .i64 (x.b 2), .int .i64 (x.b 3)] by have h := HB7; unfold Hid at h; rw [splice_cnt x hxl] at h; exact h)
      have q0 : w3.cell? ⟨w.heap.size + 1 + 1, 0, none⟩ = some (.int .i64 x.r) := HB8.out.cell 0 rfl
      have q1 : w3.cell? ⟨w.heap.size + 1 + 1, 1, none⟩ = some (.int .i64 (x.b 0)) := HB8.out.cell 1 rfl
      have q2 : w3.cell? ⟨w.heap.size + 1 + 1, 2, none⟩ = some (.int .i64 (x.b 1)) := HB8.out.cell 2 rfl
      have q3 : w3.cell? ⟨w.heap.size + 1 + 1, 3, none⟩ = some (.int .i64 (x.b 2)) := HB8.out.cell 3 rfl
      have q4 : w3.cell? ⟨w.heap.size + 1 + 1, 4, none⟩ = some (.int .i64 (x.b 3)) := HB8.out.cell 4 rfl
      have p0 := HB8.out.frozen 0
      have p1 := HB8.out.frozen 1
      have p2 := HB8.out.frozen 2
      have p3 := HB8.out.frozen 3
      have p4 := HB8.out.frozen 4
      clear HB7
      go_wp2
      generalize hY : World.setCell _ _ _ = Y
      have HB9 : Blk Y (w.heap.size + 1 + 1) 128 #[.int .i64 x.r, .int .i64 (x.b 0), .int .i64 (x.b 1), .int .i64 (x.b 2), .int .i64 (x.b 3)] := hY ▸ ((((HB8.out.set 0 _).set 1 _).set 2 _).set 3 _).set 4 _
      have hle : w.heap.size ≤ w.heap.size + 1 + 1 := by omega
      have hY2 : G w Y := by
        rw [← hY]
        exact ((((G.setCell hB3 (p := ⟨w.heap.size + 1 + 1, 0, none⟩) hle _).setCell (p := ⟨w.heap.size + 1 + 1, 1, none⟩) hle _).setCell (p := ⟨w.heap.size + 1 + 1, 2, none⟩) hle _).setCell (p := ⟨w.heap.size + 1 + 1, 3, none⟩) hle _).setCell (p := ⟨w.heap.size + 1 + 1, 4, none⟩) hle _
      have y0 : Y.cell? ⟨w.heap.size + 1 + 1, 0, none⟩ = some (.int .i64 x.r) := HB9.cell 0 rfl
      have y1 : Y.cell? ⟨w.heap.size + 1 + 1, 1, none⟩ = some (.int .i64 (x.b 0)) := HB9.cell 1 rfl
      have y2 : Y.cell? ⟨w.heap.size + 1 + 1, 2, none⟩ = some (.int .i64 (x.b 1)) := HB9.cell 2 rfl
      have y3 : Y.cell? ⟨w.heap.size + 1 + 1, 3, none⟩ = some (.int .i64 (x.b 2)) := HB9.cell 3 rfl
      have y4 : Y.cell? ⟨w.heap.size + 1 + 1, 4, none⟩ = some (.int .i64 (x.b 3)) := HB9.cell 4 rfl
      exact bodyPost_ret (v := .tuple #[cntV x, .bool true]) (by simp [results, Try.results109, go_sem, y0, y1, y2, y3, y4]) rfl ⟨rfl, hY2⟩

/-- The five cells of the zero count are stored back: nothing has turned. -/
theorem ret_zero {w Z : World} {a : Act} {c : Cn} {b : Bool} (hG : G w Z) (hB : Blk Z (w.heap.size + 1 + 1) 128 #[.int .i64 c.r, .int .i64 (c.b 0), .int .i64 (c.b 1), .int .i64 (c.b 2), .int .i64 (c.b 3)])
    (h4 : a.tmps.getD 4 undef = .pointer (some ⟨w.heap.size + 1 + 1, 0, none⟩)) (h5 : a.tmps.getD 5 undef = .bool b) (hd : a.defers = []) :
    bodyPost Try.prog Try.f109 (fun e w' => e = .returned (.tuple #[cntV c, .bool b]) ∧ G w w') .ret a
      (((((Z.setCell ⟨w.heap.size + 1 + 1, 0, none⟩ (.int .i64 c.r)).setCell ⟨w.heap.size + 1 + 1, 1, none⟩ (.int .i64 (c.b 0))).setCell ⟨w.heap.size + 1 + 1, 2, none⟩ (.int .i64 (c.b 1))).setCell ⟨w.heap.size + 1 + 1, 3, none⟩ (.int .i64 (c.b 2))).setCell ⟨w.heap.size + 1 + 1, 4, none⟩ (.int .i64 (c.b 3))) := by
  generalize hY : World.setCell _ _ _ = Y
  have HB9 : Blk Y (w.heap.size + 1 + 1) 128 #[.int .i64 c.r, .int .i64 (c.b 0), .int .i64 (c.b 1), .int .i64 (c.b 2), .int .i64 (c.b 3)] := hY ▸ ((((hB.set 0 _).set 1 _).set 2 _).set 3 _).set 4 _
  have hle : w.heap.size ≤ w.heap.size + 1 + 1 := by omega
  have hY2 : G w Y := by
    rw [← hY]
    exact ((((G.setCell hG (p := ⟨w.heap.size + 1 + 1, 0, none⟩) hle _).setCell (p := ⟨w.heap.size + 1 + 1, 1, none⟩) hle _).setCell (p := ⟨w.heap.size + 1 + 1, 2, none⟩) hle _).setCell (p := ⟨w.heap.size + 1 + 1, 3, none⟩) hle _).setCell (p := ⟨w.heap.size + 1 + 1, 4, none⟩) hle _
  have y0 : Y.cell? ⟨w.heap.size + 1 + 1, 0, none⟩ = some (.int .i64 c.r) := HB9.cell 0 rfl
  have y1 : Y.cell? ⟨w.heap.size + 1 + 1, 1, none⟩ = some (.int .i64 (c.b 0)) := HB9.cell 1 rfl
  have y2 : Y.cell? ⟨w.heap.size + 1 + 1, 2, none⟩ = some (.int .i64 (c.b 1)) := HB9.cell 2 rfl
  have y3 : Y.cell? ⟨w.heap.size + 1 + 1, 3, none⟩ = some (.int .i64 (c.b 2)) := HB9.cell 3 rfl
  have y4 : Y.cell? ⟨w.heap.size + 1 + 1, 4, none⟩ = some (.int .i64 (c.b 3)) := HB9.cell 4 rfl
  have h4' : a.tmps[4]?.getD undef = .pointer (some ⟨w.heap.size + 1 + 1, 0, none⟩) := by simpa using h4
  have h5' : a.tmps[5]?.getD undef = .bool b := by simpa using h5
  exact bodyPost_ret (v := .tuple #[cntV c, .bool b]) (by simp [results, Try.results109, go_sem, h4', h5', y0, y1, y2, y3, y4]) hd ⟨rfl, hY2⟩

set_option maxHeartbeats 4000000 in
theorem count_no (l : Led) (A C B : Option Addr) (cA cC cB : Nat) (x : Cn) (w : World) (hng : l.gs.length ≤ 30) (hnb : x.bs.length ≤ 30) (hG : Row3 w A l.gs) (hB : RowI w B x.bs) (hx : isCnt l x = false) :
    Calls Try.prog 109 #[ledV l A C cA cC, cntArg x B cB] w fun e w' => e = .returned (.tuple #[cntV ⟨0, []⟩, .bool false]) ∧ G w w' := by
  have HL := Lib.hid hG
  have HX := Lib.hid hB
  have HI := Lib.hid hx
  clear hG hB hx
  cases hx0 : inB x.r l.lo l.hi
  · go_enter Try.func109, Try.ntmps109
    go_wp2_with fail
    generalize hW : ((w.alloc _).alloc _).alloc _ = W
    obtain ⟨hB, k1, k2, k3⟩ := boxes3 hW
    have HLc := Lib.hid k1
    have HCc := Lib.hid k2
    have HB4 := Lib.hid (show Blk W (w.heap.size + 1 + 1) 128 #[.int .i64 0, .int .i64 0, .int .i64 0, .int .i64 0, .int .i64 0] from hW ▸ Blk.new' (by simp))
    clear hW k1 k2 k3
    refine (has_c _ _ _ _).mono ?_; rintro e w1 ⟨rfl, hb1⟩
    have f2 : w1.cell? ⟨w.heap.size, 2, none⟩ = some (.slice A l.gs.length cA) := hb1.cell (HLc.out 2 _ rfl)
    have f5 : w1.cell? ⟨w.heap.size + 1, 1, none⟩ = some (.slice B x.bs.length cB) := hb1.cell (HCc.out 1 _ rfl)
    have HBZ := Lib.hid (HB4.out.grow hb1)
    have z0 : w1.cell? ⟨w.heap.size + 1 + 1, 0, none⟩ = some (.int .i64 0) := HBZ.out.cell 0 rfl
    have z1 : w1.cell? ⟨w.heap.size + 1 + 1, 1, none⟩ = some (.int .i64 0) := HBZ.out.cell 1 rfl
    have z2 : w1.cell? ⟨w.heap.size + 1 + 1, 2, none⟩ = some (.int .i64 0) := HBZ.out.cell 2 rfl
    have z3 : w1.cell? ⟨w.heap.size + 1 + 1, 3, none⟩ = some (.int .i64 0) := HBZ.out.cell 3 rfl
    have z4 : w1.cell? ⟨w.heap.size + 1 + 1, 4, none⟩ = some (.int .i64 0) := HBZ.out.cell 4 rfl
    have p0 := HBZ.out.frozen 0
    have p1 := HBZ.out.frozen 1
    have p2 := HBZ.out.frozen 2
    have p3 := HBZ.out.frozen 3
    have p4 := HBZ.out.frozen 4
    go_wp2
    exact ret_zero (c := ⟨0, []⟩) (hB.trans hb1) HBZ.out rfl rfl rfl
  by_cases hx1 : x.bs.length = l.gs.length
  · have HE := Lib.hid hx1
    have hne : ((x.bs.length : Int) != (l.gs.length : Int)) = false := by simp [hx1]
    have HO := Lib.hid (show okBs x.bs l.gs = false by have h := HI.out; simp only [isCnt, hx0, Bool.true_and] at h; rw [decide_eq_true HE.out, Bool.true_and] at h; exact h)
    clear hx1
    go_enter Try.func109, Try.ntmps109
    go_wp2_with fail
    generalize hW : ((w.alloc _).alloc _).alloc _ = W
    obtain ⟨hB, k1, k2, k3⟩ := boxes3 hW
    have HLc := Lib.hid k1
    have HCc := Lib.hid k2
    have HB4 := Lib.hid (show Blk W (w.heap.size + 1 + 1) 128 #[.int .i64 0, .int .i64 0, .int .i64 0, .int .i64 0, .int .i64 0] from hW ▸ Blk.new' (by simp))
    clear hW k1 k2 k3
    refine (has_c _ _ _ _).mono ?_; rintro e w1 ⟨rfl, hb1⟩
    have f2 : w1.cell? ⟨w.heap.size, 2, none⟩ = some (.slice A l.gs.length cA) := hb1.cell (HLc.out 2 _ rfl)
    have f5 : w1.cell? ⟨w.heap.size + 1, 1, none⟩ = some (.slice B x.bs.length cB) := hb1.cell (HCc.out 1 _ rfl)
    go_wp2
    go_loopw [27] (fun v27 wr => ∃ k : Nat, k ≤ x.bs.length ∧ v27 = .int .i64 k ∧ Hid (okBs (x.bs.drop k) (l.gs.drop k) = false) ∧ G w1 wr) (fun v27 _ => x.bs.length - (intOf v27).toNat)
    case atStart => exact ⟨0, by omega, rfl, HO, G.refl _⟩
    case round =>
      obtain ⟨k, hk, rfl, HR, hbr⟩ := hrel
      by_cases hlt : k < x.bs.length
      · have hltg : k < l.gs.length := by rw [← HE.out]; exact hlt
        have HD1 := Lib.hid (List.drop_eq_getElem_cons hlt)
        have HD2 := Lib.hid (List.drop_eq_getElem_cons hltg)
        obtain ⟨b, off, rfl, d0, d1, d2⟩ := HL.out.at hltg
        obtain ⟨b', off', rfl, d3⟩ := HX.out.at hlt
        have e0 := hbr.cell (hb1.cell (hB.cell d0))
        have e1 := hbr.cell (hb1.cell (hB.cell d1))
        have e2 := hbr.cell (hb1.cell (hB.cell d2))
        have e3 := hbr.cell (hb1.cell (hB.cell d3))
        have e4 := hbr.cell f2
        clear d0 d1 d2 d3
        cases hin : inB x.bs[k] l.gs[k].lo l.gs[k].hi
        · go_wp2_with fail
          refine (has_c _ _ _ _).mono ?_; rintro e w2 ⟨rfl, hb2⟩
          have HBZ := Lib.hid (HB4.out.grow (hb1.trans (hbr.trans hb2)))
          have z0 : w2.cell? ⟨w.heap.size + 1 + 1, 0, none⟩ = some (.int .i64 0) := HBZ.out.cell 0 rfl
          have z1 : w2.cell? ⟨w.heap.size + 1 + 1, 1, none⟩ = some (.int .i64 0) := HBZ.out.cell 1 rfl
          have z2 : w2.cell? ⟨w.heap.size + 1 + 1, 2, none⟩ = some (.int .i64 0) := HBZ.out.cell 2 rfl
          have z3 : w2.cell? ⟨w.heap.size + 1 + 1, 3, none⟩ = some (.int .i64 0) := HBZ.out.cell 3 rfl
          have z4 : w2.cell? ⟨w.heap.size + 1 + 1, 4, none⟩ = some (.int .i64 0) := HBZ.out.cell 4 rfl
          have p0 := HBZ.out.frozen 0
          have p1 := HBZ.out.frozen 1
          have p2 := HBZ.out.frozen 2
          have p3 := HBZ.out.frozen 3
          have p4 := HBZ.out.frozen 4
          go_wp2
          exact ret_zero (c := ⟨0, []⟩) (hB.trans (hb1.trans (hbr.trans hb2))) HBZ.out rfl rfl rfl
        · go_wp2_with fail
          refine (has_c _ _ _ _).mono ?_; rintro e w2 ⟨rfl, hb2⟩
          go_wp2
          go_roundw
          case rel => exact ⟨k + 1, by omega, by go_num, by have h := HR; unfold Hid at h ⊢; rw [HD1.out, HD2.out, okBs, hin, Bool.true_and] at h; exact h, hbr.trans hb2⟩
          case measure => simp [intOf]; omega
      · exact absurd HR.out (by rw [List.drop_eq_nil_of_le (by omega), okBs_nil]; simp)
  · have hne : ((x.bs.length : Int) != (l.gs.length : Int)) = true := by simp; omega
    clear hx1
    go_enter Try.func109, Try.ntmps109
    go_wp2_with fail
    generalize hW : ((w.alloc _).alloc _).alloc _ = W
    obtain ⟨hB, k1, k2, k3⟩ := boxes3 hW
    have HLc := Lib.hid k1
    have HCc := Lib.hid k2
    have HB4 := Lib.hid (show Blk W (w.heap.size + 1 + 1) 128 #[.int .i64 0, .int .i64 0, .int .i64 0, .int .i64 0, .int .i64 0] from hW ▸ Blk.new' (by simp))
    clear hW k1 k2 k3
    refine (has_c _ _ _ _).mono ?_; rintro e w1 ⟨rfl, hb1⟩
    have f2 : w1.cell? ⟨w.heap.size, 2, none⟩ = some (.slice A l.gs.length cA) := hb1.cell (HLc.out 2 _ rfl)
    have f5 : w1.cell? ⟨w.heap.size + 1, 1, none⟩ = some (.slice B x.bs.length cB) := hb1.cell (HCc.out 1 _ rfl)
    have HBZ := Lib.hid (HB4.out.grow hb1)
    have z0 : w1.cell? ⟨w.heap.size + 1 + 1, 0, none⟩ = some (.int .i64 0) := HBZ.out.cell 0 rfl
    have z1 : w1.cell? ⟨w.heap.size + 1 + 1, 1, none⟩ = some (.int .i64 0) := HBZ.out.cell 1 rfl
    have z2 : w1.cell? ⟨w.heap.size + 1 + 1, 2, none⟩ = some (.int .i64 0) := HBZ.out.cell 2 rfl
    have z3 : w1.cell? ⟨w.heap.size + 1 + 1, 3, none⟩ = some (.int .i64 0) := HBZ.out.cell 3 rfl
    have z4 : w1.cell? ⟨w.heap.size + 1 + 1, 4, none⟩ = some (.int .i64 0) := HBZ.out.cell 4 rfl
    have p0 := HBZ.out.frozen 0
    have p1 := HBZ.out.frozen 1
    have p2 := HBZ.out.frozen 2
    have p3 := HBZ.out.frozen 3
    have p4 := HBZ.out.frozen 4
    go_wp2
    exact ret_zero (c := ⟨0, []⟩) (hB.trans hb1) HBZ.out rfl rfl rfl

end Go.Proofs.Ytogdhkecpjndlaa.C

/- A count, or the error; Play; ProveTruth. -/
namespace Go.Proofs.Ytogdhkecpjndlaa.C
open Go.RowKit
set_option maxRecDepth 10000

def cErr (l : Led) (x : Cn) (fine : Bool) : Int := if fault l = 0 then (if isCnt l x && fine then 0 else 2) else fault l
def cZ (l : Led) (x : Cn) : Cn := if fault l = 0 ∧ isCnt l x = true then x else ⟨0, []⟩

/-- As count's, over 'counted': the results' cells. -/
theorem ret_counted {w Z : World} {a : Act} {c : Cn} {b : Int} (hG : G w Z) (hB : Blk Z (w.heap.size + 1 + 1) 128 #[.int .i64 c.r, .int .i64 (c.b 0), .int .i64 (c.b 1), .int .i64 (c.b 2), .int .i64 (c.b 3)])
    (h4 : a.tmps.getD 6 undef = .pointer (some ⟨w.heap.size + 1 + 1, 0, none⟩)) (h5 : a.tmps.getD 7 undef = .int .i64 b) (hd : a.defers = []) :
    bodyPost Try.prog Try.f77 (fun e w' => e = .returned (.tuple #[cntV c, .int .i64 b]) ∧ G w w') .ret a
      (((((Z.setCell ⟨w.heap.size + 1 + 1, 0, none⟩ (.int .i64 c.r)).setCell ⟨w.heap.size + 1 + 1, 1, none⟩ (.int .i64 (c.b 0))).setCell ⟨w.heap.size + 1 + 1, 2, none⟩ (.int .i64 (c.b 1))).setCell ⟨w.heap.size + 1 + 1, 3, none⟩ (.int .i64 (c.b 2))).setCell ⟨w.heap.size + 1 + 1, 4, none⟩ (.int .i64 (c.b 3))) := by
  generalize hY : World.setCell _ _ _ = Y
  have HB9 : Blk Y (w.heap.size + 1 + 1) 128 #[.int .i64 c.r, .int .i64 (c.b 0), .int .i64 (c.b 1), .int .i64 (c.b 2), .int .i64 (c.b 3)] := hY ▸ ((((hB.set 0 _).set 1 _).set 2 _).set 3 _).set 4 _
  have hle : w.heap.size ≤ w.heap.size + 1 + 1 := by omega
  have hY2 : G w Y := by
    rw [← hY]
    exact ((((G.setCell hG (p := ⟨w.heap.size + 1 + 1, 0, none⟩) hle _).setCell (p := ⟨w.heap.size + 1 + 1, 1, none⟩) hle _).setCell (p := ⟨w.heap.size + 1 + 1, 2, none⟩) hle _).setCell (p := ⟨w.heap.size + 1 + 1, 3, none⟩) hle _).setCell (p := ⟨w.heap.size + 1 + 1, 4, none⟩) hle _
  have y0 : Y.cell? ⟨w.heap.size + 1 + 1, 0, none⟩ = some (.int .i64 c.r) := HB9.cell 0 rfl
  have y1 : Y.cell? ⟨w.heap.size + 1 + 1, 1, none⟩ = some (.int .i64 (c.b 0)) := HB9.cell 1 rfl
  have y2 : Y.cell? ⟨w.heap.size + 1 + 1, 2, none⟩ = some (.int .i64 (c.b 1)) := HB9.cell 2 rfl
  have y3 : Y.cell? ⟨w.heap.size + 1 + 1, 3, none⟩ = some (.int .i64 (c.b 2)) := HB9.cell 3 rfl
  have y4 : Y.cell? ⟨w.heap.size + 1 + 1, 4, none⟩ = some (.int .i64 (c.b 3)) := HB9.cell 4 rfl
  have h4' : a.tmps[6]?.getD undef = .pointer (some ⟨w.heap.size + 1 + 1, 0, none⟩) := by simpa using h4
  have h5' : a.tmps[7]?.getD undef = .int .i64 b := by simpa using h5
  exact bodyPost_ret (v := .tuple #[cntV c, .int .i64 b]) (by simp [results, Try.results77, go_sem, h4', h5', y0, y1, y2, y3, y4]) hd ⟨rfl, hY2⟩

theorem cnt_c (l : Led) (A C B : Option Addr) (cA cC cB : Nat) (x : Cn) (w : World) (hV : Valid l) (hG : Row3 w A l.gs) (hB : RowI w B x.bs) (hx : x.bs.length ≤ 30) (hf : fault l = 0) :
    Calls Try.prog 109 #[ledV l A C cA cC, cntArg x B cB] w fun e w' => e = .returned (.tuple #[cntV (cZ l x), .bool (isCnt l x)]) ∧ G w w' := by
  cases hi : isCnt l x
  · rw [show cZ l x = ⟨0, []⟩ by unfold cZ; rw [if_neg (by simp [hi])]]
    exact count_no l A C B cA cC cB x w (by have := hV.ng; omega) hx hG hB hi
  · rw [show cZ l x = x by unfold cZ; rw [if_pos ⟨hf, hi⟩]]
    exact count_yes l A C B cA cC cB x w hV hG hB hi

set_option maxHeartbeats 4000000 in
theorem counted_c (l : Led) (A C B : Option Addr) (cA cC cB : Nat) (x : Cn) (fine : Bool) (w : World) (hL : LedR w l A C) (hB : RowI w B x.bs) (hg : l.gs.length ≤ 30) (hc : l.cs.length ≤ 30) (hx : x.bs.length ≤ 30) :
    Calls Try.prog 77 #[ledV l A C cA cC, cntArg x B cB, .bool fine] w fun e w' => e = .returned (.tuple #[cntV (cZ l x), .int .i64 (cErr l x fine)]) ∧ G w w' := by
  have HL := Lib.hid hL
  have HX := Lib.hid hB
  clear hL hB
  by_cases hf : fault l = 0
  · have HF := Lib.hid hf
    have HV := Lib.hid (valid_of hf)
    have HE := Lib.hid (show cErr l x fine = if isCnt l x && fine then 0 else 2 by unfold cErr; rw [if_pos hf])
    rw [HE.out]
    have HN := Lib.hid (fun w hG hB => cnt_c l A C B cA cC cB x w HV.out hG hB hx hf)
    clear hf HE
    generalize cZ l x = z at *
    generalize isCnt l x = is at *
    cases is <;> cases fine
    all_goals
      go_enter Try.func77, Try.ntmps77
      go_wp2_with fail
      generalize hW : ((w.alloc _).alloc _).alloc _ = W
      obtain ⟨hB, k1, k2, k3⟩ := boxes3 hW
      have HLc := Lib.hid k1
      have HCc := Lib.hid k2
      have HB4 := Lib.hid (show Blk W (w.heap.size + 1 + 1) 128 #[.int .i64 0, .int .i64 0, .int .i64 0, .int .i64 0, .int .i64 0] from hW ▸ Blk.new' (by simp))
      clear hW k1 k2 k3
      refine (Check_c l A C cA cC _ (HL.out.grow hB) hg hc).mono ?_; rintro e w1 ⟨rfl, hb1⟩
      have hf := HF.out
      have f0 : w1.cell? ⟨w.heap.size, 0, none⟩ = some (.int .i64 l.lo) := hb1.cell (HLc.out 0 _ rfl)
      have f1 : w1.cell? ⟨w.heap.size, 1, none⟩ = some (.int .i64 l.hi) := hb1.cell (HLc.out 1 _ rfl)
      have f2 : w1.cell? ⟨w.heap.size, 2, none⟩ = some (.slice A l.gs.length cA) := hb1.cell (HLc.out 2 _ rfl)
      have f3 : w1.cell? ⟨w.heap.size, 3, none⟩ = some (.slice C l.cs.length cC) := hb1.cell (HLc.out 3 _ rfl)
      have f4 : w1.cell? ⟨w.heap.size + 1, 0, none⟩ = some (.int .i64 x.r) := hb1.cell (HCc.out 0 _ rfl)
      have f5 : w1.cell? ⟨w.heap.size + 1, 1, none⟩ = some (.slice B x.bs.length cB) := hb1.cell (HCc.out 1 _ rfl)
      go_wp2_with fail
      refine (HN.out _ (HL.out.g.grow (hB.trans hb1)) (HX.out.grow (hB.trans hb1))).mono ?_; rintro e w2 ⟨rfl, hb2⟩
      have HBZ := Lib.hid (HB4.out.grow (hb1.trans hb2))
      have hG2 := hB.trans (hb1.trans hb2)
      have z0 : w2.cell? ⟨w.heap.size + 1 + 1, 0, none⟩ = some (.int .i64 0) := HBZ.out.cell 0 rfl
      have z1 : w2.cell? ⟨w.heap.size + 1 + 1, 1, none⟩ = some (.int .i64 0) := HBZ.out.cell 1 rfl
      have z2 : w2.cell? ⟨w.heap.size + 1 + 1, 2, none⟩ = some (.int .i64 0) := HBZ.out.cell 2 rfl
      have z3 : w2.cell? ⟨w.heap.size + 1 + 1, 3, none⟩ = some (.int .i64 0) := HBZ.out.cell 3 rfl
      have z4 : w2.cell? ⟨w.heap.size + 1 + 1, 4, none⟩ = some (.int .i64 0) := HBZ.out.cell 4 rfl
      have p0 := HBZ.out.frozen 0
      have p1 := HBZ.out.frozen 1
      have p2 := HBZ.out.frozen 2
      have p3 := HBZ.out.frozen 3
      have p4 := HBZ.out.frozen 4
      go_upto_if 27 with (fail)
      generalize hZ : World.setCell _ _ _ = Z
      have hle : w.heap.size ≤ w.heap.size + 1 + 1 := by omega
      have HBY := Lib.hid (show Blk Z (w.heap.size + 1 + 1) 128 #[.int .i64 z.r, .int .i64 (z.b 0), .int .i64 (z.b 1), .int .i64 (z.b 2), .int .i64 (z.b 3)] from hZ ▸ ((((HBZ.out.set 0 _).set 1 _).set 2 _).set 3 _).set 4 _)
      have hY2 : G w Z := by
        rw [← hZ]
        exact ((((G.setCell hG2 (p := ⟨w.heap.size + 1 + 1, 0, none⟩) hle _).setCell (p := ⟨w.heap.size + 1 + 1, 1, none⟩) hle _).setCell (p := ⟨w.heap.size + 1 + 1, 2, none⟩) hle _).setCell (p := ⟨w.heap.size + 1 + 1, 3, none⟩) hle _).setCell (p := ⟨w.heap.size + 1 + 1, 4, none⟩) hle _
      clear hZ z0 z1 z2 z3 z4 p0 p1 p2 p3 p4 f0 f1 f2 f3 f4 f5
      have z0 : Z.cell? ⟨w.heap.size + 1 + 1, 0, none⟩ = some (.int .i64 z.r) := HBY.out.cell 0 rfl
      have z1 : Z.cell? ⟨w.heap.size + 1 + 1, 1, none⟩ = some (.int .i64 (z.b 0)) := HBY.out.cell 1 rfl
      have z2 : Z.cell? ⟨w.heap.size + 1 + 1, 2, none⟩ = some (.int .i64 (z.b 1)) := HBY.out.cell 2 rfl
      have z3 : Z.cell? ⟨w.heap.size + 1 + 1, 3, none⟩ = some (.int .i64 (z.b 2)) := HBY.out.cell 3 rfl
      have z4 : Z.cell? ⟨w.heap.size + 1 + 1, 4, none⟩ = some (.int .i64 (z.b 3)) := HBY.out.cell 4 rfl
      have p0 := HBY.out.frozen 0
      have p1 := HBY.out.frozen 1
      have p2 := HBY.out.frozen 2
      have p3 := HBY.out.frozen 3
      have p4 := HBY.out.frozen 4
      go_wp2
      exact ret_counted hY2 HBY.out rfl rfl rfl
  · have HF := Lib.hid hf
    have HE := Lib.hid (show cErr l x fine = fault l by unfold cErr; rw [if_neg hf])
    have HZ := Lib.hid (show cZ l x = ⟨0, []⟩ by unfold cZ; rw [if_neg (by simp [hf])])
    rw [HE.out, HZ.out]
    have hne : (fault l != 0) = true := by simp [hf]
    clear hf
    go_enter Try.func77, Try.ntmps77
    go_wp2_with fail
    generalize hW : ((w.alloc _).alloc _).alloc _ = W
    obtain ⟨hB, -, -, -⟩ := boxes3 hW
    have HB4 := Lib.hid (show Blk W (w.heap.size + 1 + 1) 128 #[.int .i64 0, .int .i64 0, .int .i64 0, .int .i64 0, .int .i64 0] from hW ▸ Blk.new' (by simp))
    clear hW
    refine (Check_c l A C cA cC _ (HL.out.grow hB) hg hc).mono ?_; rintro e w1 ⟨rfl, hb1⟩
    have HBZ := Lib.hid (HB4.out.grow hb1)
    have hG2 := hB.trans hb1
    have z0 : w1.cell? ⟨w.heap.size + 1 + 1, 0, none⟩ = some (.int .i64 0) := HBZ.out.cell 0 rfl
    have z1 : w1.cell? ⟨w.heap.size + 1 + 1, 1, none⟩ = some (.int .i64 0) := HBZ.out.cell 1 rfl
    have z2 : w1.cell? ⟨w.heap.size + 1 + 1, 2, none⟩ = some (.int .i64 0) := HBZ.out.cell 2 rfl
    have z3 : w1.cell? ⟨w.heap.size + 1 + 1, 3, none⟩ = some (.int .i64 0) := HBZ.out.cell 3 rfl
    have z4 : w1.cell? ⟨w.heap.size + 1 + 1, 4, none⟩ = some (.int .i64 0) := HBZ.out.cell 4 rfl
    have p0 := HBZ.out.frozen 0
    have p1 := HBZ.out.frozen 1
    have p2 := HBZ.out.frozen 2
    have p3 := HBZ.out.frozen 3
    have p4 := HBZ.out.frozen 4
    go_wp2
    exact ret_counted (c := ⟨0, []⟩) hG2 HBZ.out rfl rfl rfl
end Go.Proofs.Ytogdhkecpjndlaa.C

/- Play; ProveTruth. -/
namespace Go.Proofs.Ytogdhkecpjndlaa.C
open Go.RowKit
set_option maxRecDepth 10000

theorem cErr_zero {l : Led} {x : Cn} {fine : Bool} (h : cErr l x fine = 0) : fault l = 0 ∧ isCnt l x = true ∧ fine = true := by
  unfold cErr at h
  by_cases hf : fault l = 0
  · rw [if_pos hf] at h
    cases hi : isCnt l x <;> cases fine <;> simp_all
  · rw [if_neg hf] at h
    exact absurd h hf
def playL (l : Led) (x : Cn) : List Int := if cErr l x true = 0 then dues l x else []

theorem cntNew (w : World) (z : Cn) (t : TypeId) : Blk (w.alloc (.cells #[.int .i64 z.r, .int .i64 (z.b 0), .int .i64 (z.b 1), .int .i64 (z.b 2), .int .i64 (z.b 3)] t)) w.heap.size t #[.int .i64 z.r, .int .i64 (z.b 0), .int .i64 (z.b 1), .int .i64 (z.b 2), .int .i64 (z.b 3)] := Blk.new _ _ _

set_option maxHeartbeats 4000000 in
theorem Play_c (l : Led) (A C B : Option Addr) (cA cC cB : Nat) (x : Cn) (w : World) (hL : LedR w l A C) (hB : RowI w B x.bs) (hg : l.gs.length ≤ 30) (hc : l.cs.length ≤ 30) (hx : x.bs.length ≤ 30) :
    Calls Try.prog 42 #[ledV l A C cA cC, cntArg x B cB] w fun e w' => (∃ v, e = .returned (.tuple #[v, .int .i64 (cErr l x true)]) ∧ OwnI w.heap.size w' v (playL l x)) ∧ G w w' := by
  have HL := Lib.hid hL
  have HX := Lib.hid hB
  clear hL hB
  by_cases he : cErr l x true = 0
  · obtain ⟨hf, hi, -⟩ := cErr_zero he
    have HV := Lib.hid (valid_of hf)
    have HK := Lib.hid (cntOk_of HV.out hi)
    have HZ := Lib.hid (show cZ l x = x by unfold cZ; rw [if_pos ⟨hf, hi⟩])
    have HE := Lib.hid he
    have HP := Lib.hid (show playL l x = dues l x by unfold playL; rw [if_pos he])
    rw [HP.out, HE.out]
    clear he hf hi
    go_enter Try.func42, Try.ntmps42
    go_wp2_with fail
    generalize hW : (w.alloc _).alloc _ = W
    obtain ⟨hB, k1, -⟩ := boxes2 hW
    have HLc := Lib.hid k1
    clear hW k1
    refine (counted_c l A C B cA cC cB x true _ (HL.out.grow hB) (HX.out.grow hB) hg hc hx).mono ?_
    rw [HZ.out, HE.out]
    rintro e w1 ⟨rfl, hb1⟩
    have f0 : w1.cell? ⟨w.heap.size, 0, none⟩ = some (.int .i64 l.lo) := hb1.cell (HLc.out 0 _ rfl)
    have f1 : w1.cell? ⟨w.heap.size, 1, none⟩ = some (.int .i64 l.hi) := hb1.cell (HLc.out 1 _ rfl)
    have f2 : w1.cell? ⟨w.heap.size, 2, none⟩ = some (.slice A l.gs.length cA) := hb1.cell (HLc.out 2 _ rfl)
    have f3 : w1.cell? ⟨w.heap.size, 3, none⟩ = some (.slice C l.cs.length cC) := hb1.cell (HLc.out 3 _ rfl)
    have s0 := cell_lt f0
    go_wp2_with fail
    refine (dues_c l A C cA cC x _ HV.out HK.out (HL.out.g.grow ((hB.trans hb1).alloc _))).mono ?_
    rintro e w2 ⟨⟨v, rfl, hown⟩, hb2⟩
    have HO := Lib.hid (OwnI.lower hown ((hB.trans hb1).alloc _).size)
    clear hown
    go_wp2
    go_ret2
    exact ⟨⟨v, rfl, HO.out⟩, ((hB.trans hb1).alloc _).trans hb2⟩
  · have HE := Lib.hid he
    have HP := Lib.hid (show playL l x = [] by unfold playL; rw [if_neg he])
    have hne : (cErr l x true != 0) = true := by simp [he]
    rw [HP.out]
    clear he
    go_enter Try.func42, Try.ntmps42
    go_wp2_with fail
    generalize hW : (w.alloc _).alloc _ = W
    obtain ⟨hB, -, -⟩ := boxes2 hW
    clear hW
    refine (counted_c l A C B cA cC cB x true _ (HL.out.grow hB) (HX.out.grow hB) hg hc hx).mono ?_
    rintro e w1 ⟨rfl, hb1⟩
    go_wp2
    go_ret2
    exact ⟨⟨_, rfl, OwnI.nil _ _⟩, (hB.trans hb1).alloc _⟩

def proveB (l : Led) (x : Cn) : Bool := decide (cErr l x true = 0) && rightBut l x [] 0 l.cs

set_option maxHeartbeats 4000000 in
theorem Prove_c (l : Led) (A C B : Option Addr) (cA cC cB : Nat) (x : Cn) (w : World) (hL : LedR w l A C) (hB : RowI w B x.bs) (hg : l.gs.length ≤ 30) (hc : l.cs.length ≤ 30) (hx : x.bs.length ≤ 30) :
    Calls Try.prog 50 #[ledV l A C cA cC, cntArg x B cB] w fun e w' => e = .returned (.bool (proveB l x)) ∧ G w w' := by
  have HL := Lib.hid hL
  have HX := Lib.hid hB
  clear hL hB
  by_cases he : cErr l x true = 0
  · obtain ⟨hf, hi, -⟩ := cErr_zero he
    have HV := Lib.hid (valid_of hf)
    have HK := Lib.hid (cntOk_of HV.out hi)
    have HZ := Lib.hid (show cZ l x = x by unfold cZ; rw [if_pos ⟨hf, hi⟩])
    have HE := Lib.hid he
    have HP := Lib.hid (show proveB l x = rightBut l x [] 0 l.cs by unfold proveB; rw [decide_eq_true he, Bool.true_and])
    rw [HP.out]
    clear he hf hi
    go_enter Try.func50, Try.ntmps50
    go_wp2_with fail
    generalize hW : (w.alloc _).alloc _ = W
    obtain ⟨hB, k1, -⟩ := boxes2 hW
    have HLc := Lib.hid k1
    clear hW k1
    refine (counted_c l A C B cA cC cB x true _ (HL.out.grow hB) (HX.out.grow hB) hg hc hx).mono ?_
    rw [HZ.out, HE.out]
    rintro e w1 ⟨rfl, hb1⟩
    have f0 : w1.cell? ⟨w.heap.size, 0, none⟩ = some (.int .i64 l.lo) := hb1.cell (HLc.out 0 _ rfl)
    have f1 : w1.cell? ⟨w.heap.size, 1, none⟩ = some (.int .i64 l.hi) := hb1.cell (HLc.out 1 _ rfl)
    have f2 : w1.cell? ⟨w.heap.size, 2, none⟩ = some (.slice A l.gs.length cA) := hb1.cell (HLc.out 2 _ rfl)
    have f3 : w1.cell? ⟨w.heap.size, 3, none⟩ = some (.slice C l.cs.length cC) := hb1.cell (HLc.out 3 _ rfl)
    have s0 := cell_lt f0
    go_wp2_with fail
    refine (right_c l A C none cA cC 0 x [] _ HV.out HK.out (HL.out.grow ((hB.trans hb1).alloc _)) RowI.nil (by simp)).mono ?_
    rintro e w2 ⟨rfl, hb2⟩
    go_wp2
    go_ret
    exact ⟨rfl, ((hB.trans hb1).alloc _).trans hb2⟩
  · have HP := Lib.hid (show proveB l x = false by unfold proveB; rw [decide_eq_false he, Bool.false_and])
    have hne : (cErr l x true == 0) = false := by simp [he]
    rw [HP.out]
    clear he
    go_enter Try.func50, Try.ntmps50
    go_wp2_with fail
    generalize hW : (w.alloc _).alloc _ = W
    obtain ⟨hB, -, -⟩ := boxes2 hW
    clear hW
    refine (counted_c l A C B cA cC cB x true _ (HL.out.grow hB) (HX.out.grow hB) hg hc hx).mono ?_
    rintro e w1 ⟨rfl, hb1⟩
    go_wp2
    go_ret
    exact ⟨rfl, (hB.trans hb1).alloc _⟩

end Go.Proofs.Ytogdhkecpjndlaa.C

/- Shares of a sum as the program reckons them: floors, remainders, coins one by one. Lists and numbers alone. -/
namespace Go.Proofs.Ytogdhkecpjndlaa.C

def mix (f g : Nat → Int) (n k : Nat) : List Int := (List.range n).map fun i => if i < k then f i else g i
theorem mix_length (f g : Nat → Int) (n k : Nat) : (mix f g n k).length = n := by simp [mix]
theorem mix_set {f g : Nat → Int} {n k : Nat} (_hk : k < n) : (mix f g n k).set k (f k) = mix f g n (k + 1) := by
  apply List.ext_getElem
  · simp [mix]
  · intro i h1 h2
    simp [mix, List.getElem_set]
    by_cases h : k = i
    · subst h; simp
    · rw [if_neg h]
      by_cases h3 : i < k
      · rw [if_pos h3, if_pos (by omega)]
      · rw [if_neg h3, if_neg (by omega)]
theorem mix_zero (f g : Nat → Int) (n : Nat) : mix f g n 0 = (List.range n).map g := by simp [mix]
theorem mix_full (f g : Nat → Int) (n : Nat) : mix f g n n = (List.range n).map f := by
  apply List.ext_getElem
  · simp [mix]
  · intro i h1 h2
    simp [mix] at h1 ⊢
    omega
theorem replicate_range (n : Nat) (x : Int) : List.replicate n x = (List.range n).map fun _ => x := by
  apply List.ext_getElem <;> simp
theorem mix_at {f g : Nat → Int} {n k i : Nat} (h : i < (mix f g n k).length) : (mix f g n k)[i] = if i < k then f i else g i := by simp [mix]
theorem map_range_getD {α : Type} (f : Int → α) (xs : List Int) : (List.range xs.length).map (fun i => f (xs.getD i 0)) = xs.map f := by
  apply List.ext_getElem
  · simp
  · intro i h1 h2
    simp at h1
    simp [List.getD, List.getElem?_eq_getElem h1]

/-- Coins, one by one: each to the first one with the greatest remainder, which is then 0. -/
def maxOf : List Int → Int
  | [] => 0
  | x :: xs => maxL x xs
def coinAt (rest : List Int) : Nat := (idx (maxOf rest) rest 0).toNat
def coins : Nat → List Int → List Int → List Int
  | 0, out, _ => out
  | n + 1, out, rest => coins n (out.set (coinAt rest) (out.getD (coinAt rest) 0 + 1)) (rest.set (coinAt rest) 0)


def fl (ds : List Int) (sum : Int) (i : Nat) : Int := pos (ds.getD i 0) * sum / totalFrom 0 ds
def rm (ds : List Int) (sum : Int) (i : Nat) : Int := pos (ds.getD i 0) * sum % totalFrom 0 ds
def sumTo (f : Nat → Int) : Nat → Int
  | 0 => 0
  | k + 1 => sumTo f k + f k
def leftOf (ds : List Int) (sum : Int) : Int := sum - sumTo (fl ds sum) ds.length
def shareL (ds : List Int) (sum : Int) : List Int :=
  if totalFrom 0 ds ≤ sum then ds.map pos
  else coins (leftOf ds sum).toNat ((List.range ds.length).map (fl ds sum)) ((List.range ds.length).map (rm ds sum))

theorem pos_nonneg (n : Int) : 0 ≤ pos n := by unfold pos; split <;> omega
theorem totalFrom_eq : ∀ (ds : List Int) (n : Int), totalFrom n ds = n + (ds.map pos).sum
  | [], n => by simp [totalFrom]
  | d :: ds, n => by simp [totalFrom, totalFrom_eq ds]; omega
theorem totalFrom_nonneg (ds : List Int) (n : Int) (h : 0 ≤ n) : n ≤ totalFrom n ds := by
  induction ds generalizing n with
  | nil => simp [totalFrom]
  | cons d ds ih =>
    have := pos_nonneg d
    have := ih (n + pos d) (by omega)
    simp only [totalFrom]
    omega
theorem sumTo_eq (f : Nat → Int) (n : Nat) : sumTo f n = ((List.range n).map f).sum := by
  induction n with
  | zero => rfl
  | succ n ih => rw [sumTo, ih, List.range_succ, List.map_append, List.sum_append]; simp
theorem sumTo_le {f g : Nat → Int} {n : Nat} (h : ∀ i, i < n → f i ≤ g i) : sumTo f n ≤ sumTo g n := by
  induction n with
  | zero => simp [sumTo]
  | succ n ih =>
    have := ih (fun i hi => h i (by omega))
    have := h n (by omega)
    simp only [sumTo]
    omega
theorem sumTo_mul (f : Nat → Int) (c : Int) (n : Nat) : c * sumTo f n = sumTo (fun i => c * f i) n := by
  induction n with
  | zero => simp [sumTo]
  | succ n ih => simp only [sumTo]; rw [Int.mul_add, ih]
theorem sumTo_add (f g : Nat → Int) (n : Nat) : sumTo (fun i => f i + g i) n = sumTo f n + sumTo g n := by
  induction n with
  | zero => simp [sumTo]
  | succ n ih => simp only [sumTo]; rw [ih]; omega
theorem total_sumTo (ds : List Int) : totalFrom 0 ds = sumTo (fun i => pos (ds.getD i 0)) ds.length := by
  rw [totalFrom_eq, sumTo_eq, map_range_getD pos ds]
  omega
/-- The remainders together are what is left, times the total. -/
theorem rest_sum (ds : List Int) (sum : Int) : totalFrom 0 ds * leftOf ds sum = sumTo (rm ds sum) ds.length := by
  have h : sumTo (fun i => pos (ds.getD i 0) * sum) ds.length = sumTo (fun i => totalFrom 0 ds * fl ds sum i + rm ds sum i) ds.length := by
    congr 1
    funext i
    exact (Int.mul_ediv_add_emod (pos (ds.getD i 0) * sum) (totalFrom 0 ds)).symm
  rw [sumTo_add, ← sumTo_mul] at h
  have h2 : sumTo (fun i => pos (ds.getD i 0) * sum) ds.length = totalFrom 0 ds * sum := by
    rw [total_sumTo, Int.mul_comm, sumTo_mul]
    congr 1
    funext i
    exact Int.mul_comm _ _
  unfold leftOf
  rw [Int.mul_sub, ← h2, h]
  omega
theorem sumTo_nonneg {f : Nat → Int} {n : Nat} (h : ∀ i, 0 ≤ f i) : 0 ≤ sumTo f n := by
  induction n with
  | zero => simp [sumTo]
  | succ n ih =>
    have := h n
    simp only [sumTo]
    omega
theorem left_nonneg {ds : List Int} {sum : Int} (h : 0 < totalFrom 0 ds) : 0 ≤ leftOf ds sum := by
  have h1 := rest_sum ds sum
  have h2 : 0 ≤ sumTo (rm ds sum) ds.length := sumTo_nonneg fun i => Int.emod_nonneg _ (by omega)
  rw [← h1] at h2
  by_cases h3 : 0 ≤ leftOf ds sum
  · exact h3
  · exfalso
    have := Int.mul_neg_of_pos_of_neg h (show leftOf ds sum < 0 by omega)
    omega

theorem maxL_mem : ∀ (xs : List Int) (m : Int), maxL m xs ∈ m :: xs
  | [], m => by simp [maxL]
  | x :: xs, m => by
    have := maxL_mem xs (if m < x then x else m)
    rw [maxL]
    simp only [List.mem_cons] at this ⊢
    split at this <;> grind
theorem maxOf_mem {xs : List Int} (h : xs ≠ []) : maxOf xs ∈ xs := by
  cases xs with
  | nil => exact absurd rfl h
  | cons x xs => exact maxL_mem xs x
theorem idx_spec : ∀ (xs : List Int) (v k : Int), v ∈ xs → ∃ j : Nat, idx v xs k = k + j ∧ xs[j]? = some v ∧ ∀ i, i < j → xs[i]? ≠ some v
  | [], v, k, h => by simp at h
  | x :: xs, v, k, h => by
    rw [idx]
    by_cases hx : v = x
    · rw [if_pos hx]
      exact ⟨0, by omega, by simp [hx], fun i hi => by omega⟩
    · rw [if_neg hx]
      obtain ⟨j, h1, h2, h3⟩ := idx_spec xs v (k + 1) (by simpa [hx] using h)
      refine ⟨j + 1, by omega, by simpa using h2, fun i hi => ?_⟩
      cases i with
      | zero => simp; exact fun h => hx h.symm
      | succ i => simpa using h3 i (by omega)
theorem coinAt_spec {rest : List Int} (h : rest ≠ []) : idx (maxOf rest) rest 0 = coinAt rest ∧ coinAt rest < rest.length ∧ rest[coinAt rest]? = some (maxOf rest) ∧ ∀ i, i < coinAt rest → rest[i]? ≠ some (maxOf rest) := by
  obtain ⟨j, h1, h2, h3⟩ := idx_spec rest (maxOf rest) 0 (maxOf_mem h)
  have : coinAt rest = j := by unfold coinAt; omega
  rw [this]
  exact ⟨by omega, (List.getElem?_eq_some_iff.1 h2).1, h2, h3⟩

end Go.Proofs.Ytogdhkecpjndlaa.C

/- The shares of a sum, by the program: the walk. -/
namespace Go.Proofs.Ytogdhkecpjndlaa.C
open Go.RowKit
set_option maxRecDepth 100000

/-- A block of whole numbers of the call's own. -/
def BlkI (w : World) (g : Nat) (xs : List Int) : Prop := Blk w g 3 (ints xs).toArray
theorem BlkI.cell {w : World} {g : Nat} {xs : List Int} (h : BlkI w g xs) {i : Nat} (hi : i < xs.length) : w.cell? ⟨g, i, none⟩ = some (.int .i64 xs[i]) := Blk.cell h i (by simp [ints, hi])
theorem BlkI.set {w : World} {g : Nat} {xs : List Int} (h : BlkI w g xs) (i : Nat) (x : Int) : BlkI (w.setCell ⟨g, i, none⟩ (.int .i64 x)) g (xs.set i x) := by
  have := Blk.set h i (.int .i64 x)
  unfold BlkI
  rw [show (ints (xs.set i x)).toArray = (ints xs).toArray.setIfInBounds i (.int .i64 x) by simp [ints, List.map_set]]
  exact this
theorem BlkI.row {w : World} {g : Nat} {xs : List Int} (h : BlkI w g xs) : RowI w (some ⟨g, 0, none⟩) xs := fun j x hj => by
  refine ⟨g, 0, rfl, ?_⟩
  obtain ⟨hlt, rfl⟩ := List.getElem?_eq_some_iff.1 hj
  rw [Nat.zero_add]
  exact h.cell hlt
theorem BlkI.own {w : World} {g : Nat} {xs : List Int} (h : BlkI w g xs) {base : Nat} (hb : base ≤ g) (hl : xs.length ≤ 1000000) : OwnI base w (.slice (some ⟨g, 0, none⟩) xs.length xs.length) xs :=
  ⟨by simp [ints], .inr ⟨g, xs.length, (ints xs).toArray, rfl, hb, h, Nat.le_refl _, by simp only [maxLen]; omega, by simp [ints], by simp [ints, List.take_of_length_le]⟩⟩
theorem BlkI.new (w : World) (n : Nat) {m : Nat} (hm : m = w.heap.size) : BlkI (w.alloc (.cells (madeCells #[.int .i64 0] n) 3)) m (List.replicate n 0) := by
  subst hm
  unfold BlkI
  rw [show (ints (List.replicate n 0)).toArray = madeCells #[.int .i64 0] n by
    apply Array.ext
    · simp [ints, madeCells]
    · intro i h1 h2
      simp [ints, madeCells, Nat.mod_one]]
  exact Blk.new _ _ _

theorem BlkI.far {w : World} {g : Nat} {xs : List Int} (h : BlkI w g xs) {p : Addr} (hp : g ≠ p.block) (u : Value) : BlkI (w.setCell p u) g xs := Blk.far h hp u
theorem BlkI.grow {w w1 : World} {g : Nat} {xs : List Int} (h : BlkI w g xs) (hb : G w w1) : BlkI w1 g xs := Blk.grow h hb
theorem fl_bd {ds : List Int} {sum : Int} (hb : ∀ d ∈ ds, -1000000 ≤ d ∧ d ≤ 1000000) (h0 : 0 ≤ sum) (h1 : sum ≤ 10000) (hw : 0 < totalFrom 0 ds) (i : Nat) :
    0 ≤ pos (ds.getD i 0) ∧ pos (ds.getD i 0) ≤ 1000000 ∧ 0 ≤ pos (ds.getD i 0) * sum ∧ pos (ds.getD i 0) * sum ≤ 10000000000 ∧ 0 ≤ fl ds sum i ∧ fl ds sum i ≤ 10000000000 := by
  have hp : 0 ≤ pos (ds.getD i 0) ∧ pos (ds.getD i 0) ≤ 1000000 := by
    rw [List.getD_eq_getElem?_getD]
    cases hx : ds[i]? with
    | none => simp [pos]
    | some x =>
      have := hb x (List.mem_of_getElem? hx)
      simp [pos]
      split <;> omega
  have hm := mul_bd hp.1 hp.2 h0 h1
  have hq : 0 ≤ fl ds sum i ∧ fl ds sum i ≤ pos (ds.getD i 0) * sum := ⟨Int.ediv_nonneg hm.1 (by omega), Int.ediv_le_self _ hm.1⟩
  omega
theorem totalFrom_bd : ∀ (ds : List Int) (n : Int), (∀ d ∈ ds, -1000000 ≤ d ∧ d ≤ 1000000) → totalFrom n ds ≤ n + 1000000 * ds.length
  | [], n, _ => by simp [totalFrom]
  | d :: ds, n, h => by
    have h1 := h d (by simp)
    have h2 := totalFrom_bd ds (n + pos d) (fun x hx => h x (by simp [hx]))
    have h3 : pos d ≤ 1000000 := by unfold pos; split <;> omega
    simp only [totalFrom, List.length_cons]
    omega
theorem set_bd {n : Int} {xs : List Int} {j : Nat} (h : ∀ x ∈ xs, 0 ≤ x ∧ x + (n + 1) ≤ 20000000000) (hj : j < xs.length) : ∀ x ∈ xs.set j (xs.getD j 0 + 1), 0 ≤ x ∧ x + n ≤ 20000000000 := by
  intro x hx
  rcases List.mem_or_eq_of_mem_set hx with hx | rfl
  · have := h x hx; omega
  · have := h xs[j] (List.getElem_mem hj)
    simp [List.getD, List.getElem?_eq_getElem hj]
    omega

theorem MaxN_c (A : Option Addr) (xs : List Int) (n c : Nat) (w : World) (hn : n = xs.length) (hp : xs ≠ []) (hX : RowI w A xs) (hm : xs.length ≤ 1000000) :
    Calls Try.prog 111 #[.slice A n c] w fun e w' => e = .returned (.int .i64 (maxOf xs)) ∧ w = w' := by
  subst hn
  cases xs with
  | nil => exact absurd rfl hp
  | cons x xs => exact Max_c A x xs c w hX (by simp at hm; omega)
theorem IndexN_c (A : Option Addr) (xs : List Int) (n c : Nat) (v : Int) (w : World) (hn : n = xs.length) (hX : RowI w A xs) (hm : xs.length ≤ 1000000) :
    Calls Try.prog 75 #[.slice A n c, .int .i64 v] w fun e w' => e = .returned (.int .i64 (idx v xs 0)) ∧ w = w' := by
  subst hn
  exact Index_c A xs c v w hX hm

set_option maxHeartbeats 8000000 in
theorem share_c (A : Option Addr) (c : Nat) (ds : List Int) (sum : Int) (w : World) (hD : RowI w A ds) (hl : ds.length ≤ 4) (hb : ∀ d ∈ ds, -1000000 ≤ d ∧ d ≤ 1000000) (h0 : 0 ≤ sum) (h1 : sum ≤ 10000) :
    Calls Try.prog 79 #[.slice A ds.length c, .int .i64 sum] w fun e w' => (∃ v, e = .returned v ∧ OwnI w.heap.size w' v (shareL ds sum)) ∧ G w w' := by
  have HD := Lib.hid hD
  have HBD := Lib.hid hb
  have hT0 := totalFrom_nonneg ds 0 (by omega)
  have hT1 := totalFrom_bd ds 0 hb
  clear hD hb
  have hmk : ∀ W : World, (Instr.makeSlice 30 (.int .i64 (ds.length : Int)) (.int .i64 (ds.length : Int))).run Try.prog W = .ok (.slice (some ⟨W.heap.size, 0, none⟩) ds.length ds.length) (W.alloc (.cells (madeCells #[.int .i64 0] ds.length) 3)) := fun W =>
    run_make_row' 30 3 (.int .i64 0) 8 Try.underlying30 info3 rfl .i64 .i64 ds.length (by omega) (by omega) W
  go_enter Try.func79, Try.ntmps79
  go_wp2_with fail
  go_step3
  go_wp2_with fail
  refine (total_c _ _ _ _ HD.out (by omega) HBD.out).mono ?_; rintro e w1 ⟨rfl, rfl⟩
  go_upto_region 2 with fail
  go_cut [6, 7] (fun v6 v7 wc => ∃ g1 g2 : Nat, v6 = .slice (some ⟨g1, 0, none⟩) ds.length ds.length ∧ v7 = .slice (some ⟨g2, 0, none⟩) ds.length ds.length ∧ w.heap.size ≤ g1 ∧ w.heap.size ≤ g2 ∧ Hid (g1 ≠ g2) ∧ Hid (BlkI wc g1 (List.replicate ds.length 0)) ∧ Hid (BlkI wc g2 (List.replicate ds.length 0)) ∧ G w wc)
  case first =>
    go_region
    · go_wp2_with fail
      go_meet
      exact ⟨_, _, rfl, rfl, by omega, by omega, by simp [Hid], (BlkI.new w ds.length rfl).grow ((G.refl _).alloc _).drew, (BlkI.new (w.alloc _) ds.length (by simp)).grow (G.refl _).drew, (((G.refl _).alloc _).alloc _).drew⟩
    · go_wp2_with fail
      go_meet
      exact ⟨_, _, rfl, rfl, by omega, by omega, by simp [Hid], (BlkI.new (w.alloc _) ds.length (by simp)).grow (G.refl _).drew, (BlkI.new w ds.length rfl).grow ((G.refl _).alloc _).drew, (((G.refl _).alloc _).alloc _).drew⟩
  case rest =>
    obtain ⟨g1, g2, rfl, rfl, hg1, hg2, HN, HO, HR, hB⟩ := hcut
    clear hmk
    go_wp2_with fail
    go_loopw [24] (fun v24 wr => ∃ k : Nat, k ≤ ds.length ∧ v24 = .int .i64 k ∧ Hid (BlkI wr g1 (mix (fun i => pos (ds.getD i 0)) (fun _ => 0) ds.length k)) ∧ Hid (BlkI wr g2 (List.replicate ds.length 0)) ∧ G w wr) (fun v24 _ => ds.length - (intOf v24).toNat)
    case atStart => exact ⟨0, by omega, rfl, by rw [mix_zero, ← replicate_range]; exact HO, HR, hB⟩
    case round =>
      obtain ⟨k, hk, rfl, HO2, HR2, hbr⟩ := hrel
      by_cases hlt : k < ds.length
      · obtain ⟨b, off, rfl, d0⟩ := HD.out.at hlt
        have e0 := hbr.cell d0
        have f0 := HO2.out.cell (i := k) (by rw [mix_length]; exact hlt)
        have f1 := Blk.frozen HO2.out k
        have hk0 : (0 : Int) ≤ k := by omega
        have hk1 : (k : Int) < ds.length := by omega
        have HE := Lib.hid (show pos ds[k] = (if 0 < ds[k] then ds[k] else 0) by unfold pos; split <;> split <;> omega)
        have HG : Hid (ds.getD k 0 = ds[k]) := by simp [Hid, List.getD, List.getElem?_eq_getElem hlt]
        by_cases hp : 0 < ds[k]
        all_goals
          go_wp2
          generalize hZ : World.setCell _ _ _ = Z
          have hZ2 : G w Z := hZ ▸ hbr.setCell (p := ⟨g1, k, none⟩) hg1 _
          have HO3 := Lib.hid (show BlkI Z g1 (mix (fun i => pos (ds.getD i 0)) (fun _ => 0) ds.length (k + 1)) by rw [← mix_set hlt]; show BlkI Z g1 (List.set _ k (pos (ds.getD k 0))); rw [HG.out, HE.out]; (first | rw [if_pos hp] | rw [if_neg hp]); exact hZ ▸ HO2.out.set k _)
          have HR3 := Lib.hid (show BlkI Z g2 (List.replicate ds.length 0) from hZ ▸ HR2.out.far (p := ⟨g1, k, none⟩) (Ne.symm HN.out) _)
          clear hZ f0 f1 e0 d0
          go_wp2
          go_roundw
          case rel => exact ⟨k + 1, by omega, by go_num, HO3, HR3, hZ2⟩
          case measure => simp [intOf]; omega
      · obtain rfl : k = ds.length := by omega
        have HO3 := Lib.hid (show BlkI wr g1 (ds.map pos) by have h := HO2.out; rw [mix_full, map_range_getD pos ds] at h; exact h)
        clear HO2 HO HR
        by_cases hs : totalFrom 0 ds ≤ sum
        · have HS := Lib.hid (show shareL ds sum = ds.map pos by unfold shareL; rw [if_pos hs])
          go_wp2
          rw [Exit.noGoto_ret]
          go_ret
          exact ⟨⟨_, rfl, by rw [HS.out]; have := HO3.out.own (base := w.heap.size) hg1 (by simp; omega); rwa [List.length_map] at this⟩, hbr⟩
        · have HS := Lib.hid (show shareL ds sum = coins (leftOf ds sum).toNat ((List.range ds.length).map (fl ds sum)) ((List.range ds.length).map (rm ds sum)) by unfold shareL; rw [if_neg hs])
          have hs2 : sum < totalFrom 0 ds := by omega
          clear hs
          obtain ⟨wo, rfl⟩ : ∃ wo : World, wo = wr := ⟨_, rfl⟩
          go_wp2
          go_loopw [10, 42] (fun v10 v42 wr => ∃ (k : Nat) (L : Int), k ≤ ds.length ∧ v42 = .int .i64 k ∧ v10 = .int .i64 L ∧ L ≤ 10000 ∧ -10000000000 * (k : Int) ≤ L ∧ Hid (L = sum - sumTo (fl ds sum) k) ∧ Hid (BlkI wr g1 (mix (fl ds sum) (fun i => pos (ds.getD i 0)) ds.length k)) ∧ Hid (BlkI wr g2 (mix (rm ds sum) (fun _ => 0) ds.length k)) ∧ G w wr) (fun _ v42 _ => ds.length - (intOf v42).toNat)
          case atStart => exact ⟨0, sum, by omega, rfl, rfl, by omega, by omega, by simp [Hid, sumTo], by rw [mix_zero, map_range_getD pos ds]; exact HO3, by rw [mix_zero, ← replicate_range]; exact HR2, hbr⟩
          case round =>
            clear HO3 HR2 hbr hB
            obtain ⟨k, L, hk, rfl, rfl, hL0, hL1, HL, HO2, HR2, hbr⟩ := hrel
            by_cases hlt : k < ds.length
            · have f0 := HO2.out.cell (i := k) (by rw [mix_length]; exact hlt)
              rw [mix_at, if_neg (by omega)] at f0
              have f1 := Blk.frozen HO2.out k
              have f2 := HR2.out.cell (i := k) (by rw [mix_length]; exact hlt)
              rw [mix_at, if_neg (by omega)] at f2
              have f3 := Blk.frozen HR2.out k
              have hk0 : (0 : Int) ≤ k := by omega
              have hk1 : (k : Int) < ds.length := by omega
              obtain ⟨b0, b1, b2, b3, b4, b5⟩ := fl_bd HBD.out h0 h1 (by omega : 0 < totalFrom 0 ds) k
              have HQ := Lib.hid (show fl ds sum k = pos (ds.getD k 0) * sum / totalFrom 0 ds from rfl)
              have HM := Lib.hid (show rm ds sum k = pos (ds.getD k 0) * sum % totalFrom 0 ds from rfl)
              generalize hpe : pos (ds.getD k 0) = p at f0 b0 b1 b2 b3 HQ HM
              have HPE := Lib.hid hpe
              clear hpe
              have hw1 : IntKind.i64.wrap (p * sum) = p * sum := IntWalk.i64_in _ (by omega)
              have hq1 : IntKind.i64.wrap (p * sum / totalFrom 0 ds) = p * sum / totalFrom 0 ds := IntWalk.i64_in _ (by rw [← HQ.out]; omega)
              have hne : (totalFrom 0 ds == 0) = false := by simp; omega
              go_wp2
              have x0 : ∀ v, (wr.setCell ⟨g1, k, none⟩ v).cell? ⟨g2, k, none⟩ = some (.int .i64 0) := fun v => (World.cell?_setCell_other _ _ _ _ (fun h => absurd (congrArg Addr.block h) (by first | exact HN.out | exact Ne.symm HN.out))).trans f2
              have x1 : ∀ v, (wr.setCell ⟨g2, k, none⟩ v).cell? ⟨g1, k, none⟩ = some (.int .i64 p) := fun v => (World.cell?_setCell_other _ _ _ _ (fun h => absurd (congrArg Addr.block h) (by first | exact HN.out | exact Ne.symm HN.out))).trans f0
              go_region
              generalize hZ : World.drew _ = Z
              have hZ2 : G w Z := by rw [← hZ]; exact ((hbr.setCell (p := ⟨g1, k, none⟩) hg1 _).setCell (p := ⟨g2, k, none⟩) hg2 _).drew
              have HO3 := Lib.hid (show BlkI Z g1 (mix (fl ds sum) (fun i => pos (ds.getD i 0)) ds.length (k + 1)) by
                rw [← mix_set hlt, HQ.out, ← hZ]; exact (show BlkI ((wr.setCell ⟨g1, k, none⟩ _).setCell ⟨g2, k, none⟩ _) g1 _ from (HO2.out.set k _).far (p := ⟨g2, k, none⟩) HN.out _))
              have HR3 := Lib.hid (show BlkI Z g2 (mix (rm ds sum) (fun _ => 0) ds.length (k + 1)) by
                rw [← mix_set hlt, HM.out, ← hZ]; exact (show BlkI ((wr.setCell ⟨g1, k, none⟩ _).setCell ⟨g2, k, none⟩ _) g2 _ from (HR2.out.far (p := ⟨g1, k, none⟩) (Ne.symm HN.out) _).set k _))
              clear hZ f0 f1 f2 f3 x0 x1
              have f0 := HO3.out.cell (i := k) (by rw [mix_length]; exact hlt)
              rw [mix_at, if_pos (by omega)] at f0
              have HL2 := Lib.hid (show L - fl ds sum k = sum - sumTo (fl ds sum) (k + 1) by rw [HL.out, sumTo]; omega)
              clear HQ HM hq1 hw1 hne
              generalize fl ds sum k = q at *
              go_wp2
              go_roundw
              case rel => exact ⟨k + 1, _, by omega, by go_num, rfl, by omega, by omega, HL2, HO3, HR3, hZ2⟩
              case measure => simp [intOf]; omega
            · obtain rfl : k = ds.length := by omega
              obtain ⟨wo2, rfl⟩ : ∃ wo : World, wo = wr := ⟨_, rfl⟩
              have HO3 := Lib.hid (show BlkI wo2 g1 ((List.range ds.length).map (fl ds sum)) by have h := HO2.out; rwa [mix_full] at h)
              have HR3 := Lib.hid (show BlkI wo2 g2 ((List.range ds.length).map (rm ds sum)) by have h := HR2.out; rwa [mix_full] at h)
              have HL2 := Lib.hid (show L = leftOf ds sum from HL.out)
              have hLn : 0 ≤ L := by rw [HL2.out]; exact left_nonneg (by omega)
              clear HO2 HR2 HL
              have HFB := Lib.hid (show ∀ x ∈ (List.range ds.length).map (fl ds sum), 0 ≤ x ∧ x + (L.toNat : Int) ≤ 20000000000 from fun x hx => by
                obtain ⟨i, -, rfl⟩ := List.mem_map.1 hx
                have := fl_bd HBD.out h0 h1 (by omega : 0 < totalFrom 0 ds) i
                omega)
              have hpos : 0 < ds.length := by
                cases ds with
                | nil => simp [totalFrom] at hs2; omega
                | cons d ds => simp
              go_wp2
              go_step3
              go_wp2
              clear hs2 hT0 hT1 HBD HD h0 h1
              go_loopw [10] (fun v10 wr => ∃ (n : Nat) (out rest : List Int), v10 = .int .i64 n ∧ n ≤ 10000 ∧ Hid (out.length = ds.length) ∧ Hid (rest.length = ds.length) ∧ Hid (coins n out rest = shareL ds sum) ∧ Hid (∀ x ∈ out, 0 ≤ x ∧ x + n ≤ 20000000000) ∧ Hid (BlkI wr g1 out) ∧ Hid (BlkI wr g2 rest) ∧ G w wr) (fun v10 _ => (intOf v10).toNat)
              case atStart =>
                exact ⟨L.toNat, _, _, by rw [Int.toNat_of_nonneg hLn], by omega, by simp [Hid], by simp [Hid], by rw [HS.out, ← HL2.out]; exact rfl, HFB.out, HO3, HR3, hbr⟩
              case round =>
                clear HO3 HR3 hbr
                obtain ⟨n, out, rest, rfl, hn, HlO, HlR, HC, HB, HO3, HR3, hbr⟩ := hrel
                cases n with
                | zero =>
                  have HO4 := Lib.hid (show OwnI w.heap.size wr (.slice (some ⟨g1, 0, none⟩) ds.length ds.length) (shareL ds sum) by
                    have h := HO3.out.own (base := w.heap.size) hg1 (by rw [HlO.out]; omega)
                    rw [HlO.out] at h
                    rwa [show out = shareL ds sum from HC] at h)
                  go_wp2
                  try rw [Exit.noGoto_ret]
                  go_ret
                  exact ⟨⟨_, rfl, HO4.out⟩, hbr⟩
                | succ n =>
                  have hne : rest ≠ [] := by intro h; have := HlR.out; rw [h] at this; simp at this; omega
                  obtain ⟨hj0, hj1, -, -⟩ := coinAt_spec hne
                  have HJ := Lib.hid hj0
                  rw [HlR.out] at hj1
                  clear hj0
                  have hn1 : ((n : Int) + 1 == 0) = false := by simp; omega
                  go_wp2_with fail
                  refine (MaxN_c _ rest _ _ _ HlR.out.symm hne HR3.out.row (by rw [HlR.out]; omega)).mono ?_; rintro e w8 ⟨rfl, rfl⟩
                  go_wp2_with fail
                  refine (IndexN_c _ rest _ _ _ _ HlR.out.symm HR3.out.row (by rw [HlR.out]; omega)).mono ?_
                  rw [HJ.out]
                  rintro e w8 ⟨rfl, rfl⟩
                  have HC2 := Lib.hid (show coins n (out.set (coinAt rest) (out.getD (coinAt rest) 0 + 1)) (rest.set (coinAt rest) 0) = shareL ds sum from HC.out)
                  have HB2 := Lib.hid (set_bd (n := n) (j := coinAt rest) (fun x hx => by have := HB.out x hx; push_cast at this; exact this) (by rw [HlO.out]; exact hj1))
                  clear HC HJ
                  generalize coinAt rest = j at *
                  have hjo : j < out.length := by rw [HlO.out]; exact hj1
                  have hjr : j < rest.length := by rw [HlR.out]; exact hj1
                  have f0 := HO3.out.cell hjo
                  have f1 := Blk.frozen HO3.out j
                  have f2 := HR3.out.cell hjr
                  have f3 := Blk.frozen HR3.out j
                  have hk0 : (0 : Int) ≤ j := by omega
                  have hk1 : (j : Int) < ds.length := by omega
                  have hbx := HB.out out[j] (List.getElem_mem hjo)
                  have HX := Lib.hid (show out.getD j 0 = out[j] by simp [List.getD, List.getElem?_eq_getElem hjo])
                  generalize out[j] = x at *
                  have x0 : ∀ v, (wr.setCell ⟨g1, j, none⟩ v).cell? ⟨g2, j, none⟩ = some (.int .i64 rest[j]) := fun v => (World.cell?_setCell_other _ _ _ _ (fun h => absurd (congrArg Addr.block h) (by first | exact HN.out | exact Ne.symm HN.out))).trans f2
                  generalize rest[j] = y at *
                  go_wp2
                  generalize hZ : World.setCell _ _ _ = Z
                  have hZ2 : G w Z := by rw [← hZ]; exact (hbr.setCell (p := ⟨g1, j, none⟩) hg1 _).setCell (p := ⟨g2, j, none⟩) hg2 _
                  have HO4 := Lib.hid (show BlkI Z g1 (out.set j (out.getD j 0 + 1)) by rw [HX.out, ← hZ]; exact (HO3.out.set j _).far (p := ⟨g2, j, none⟩) HN.out _)
                  have HR4 := Lib.hid (show BlkI Z g2 (rest.set j 0) by rw [← hZ]; exact (HR3.out.far (p := ⟨g1, j, none⟩) (Ne.symm HN.out) _).set j _)
                  clear hZ f0 f1 f2 f3 x0
                  go_wp2
                  go_roundw
                  case rel => exact ⟨n, _, _, (by first | rfl | go_num), by omega, by simp [Hid]; exact HlO.out, by simp [Hid]; exact HlR.out, HC2, HB2, HO4, HR4, hZ2⟩
                  case measure => simp [intOf]
end Go.Proofs.Ytogdhkecpjndlaa.C

/- Share. -/
namespace Go.Proofs.Ytogdhkecpjndlaa.C
open Go.RowKit
set_option maxRecDepth 100000

def shareR (l : Led) (x : Cn) (sum : Int) : List Int := if cErr l x (inB sum 0 9999) = 0 then shareL (dues l x) sum else []

theorem dues_bd {l : Led} {x : Cn} (hV : Valid l) (hK : CntOk l x) : ∀ d ∈ dues l x, -1000000 ≤ d ∧ d ≤ 1000000 := by
  intro d hd
  obtain ⟨i, -, rfl⟩ := List.mem_map.1 hd
  have := owed_bd hV hK i
  omega
theorem dues_len (l : Led) (x : Cn) : (dues l x).length = l.gs.length := by simp [dues]

theorem zero5 {W w1 : World} (h : G (W.alloc (.cells #[.int .i64 0, .int .i64 0, .int .i64 0, .int .i64 0, .int .i64 0] 128)).drew w1) :
    w1.cell? ⟨W.heap.size, 0, none⟩ = some (.int .i64 0) ∧ w1.cell? ⟨W.heap.size, 1, none⟩ = some (.int .i64 0) ∧ w1.cell? ⟨W.heap.size, 2, none⟩ = some (.int .i64 0) ∧ w1.cell? ⟨W.heap.size, 3, none⟩ = some (.int .i64 0) ∧ w1.cell? ⟨W.heap.size, 4, none⟩ = some (.int .i64 0) ∧
    w1.frozen? ⟨W.heap.size, 0, none⟩ = false ∧ w1.frozen? ⟨W.heap.size, 1, none⟩ = false ∧ w1.frozen? ⟨W.heap.size, 2, none⟩ = false ∧ w1.frozen? ⟨W.heap.size, 3, none⟩ = false ∧ w1.frozen? ⟨W.heap.size, 4, none⟩ = false ∧ W.heap.size < w1.heap.size ∧ Hid (Blk w1 W.heap.size 128 #[.int .i64 0, .int .i64 0, .int .i64 0, .int .i64 0, .int .i64 0]) := by
  have hB : Blk w1 W.heap.size 128 #[.int .i64 0, .int .i64 0, .int .i64 0, .int .i64 0, .int .i64 0] := Blk.grow (w := (W.alloc _).drew) (Blk.new W _ _) h
  exact ⟨hB.cell 0 rfl, hB.cell 1 rfl, hB.cell 2 rfl, hB.cell 3 rfl, hB.cell 4 rfl, hB.frozen 0, hB.frozen 1, hB.frozen 2, hB.frozen 3, hB.frozen 4, hB.lt, hB⟩

set_option maxHeartbeats 8000000 in
theorem Share_c (l : Led) (A C B : Option Addr) (cA cC cB : Nat) (x : Cn) (sum : Int) (w : World) (hL : LedR w l A C) (hB : RowI w B x.bs) (hg : l.gs.length ≤ 30) (hc : l.cs.length ≤ 30) (hx : x.bs.length ≤ 30) :
    Calls Try.prog 29 #[ledV l A C cA cC, cntArg x B cB, .int .i64 sum] w fun e w' => (∃ v, e = .returned (.tuple #[v, .int .i64 (cErr l x (inB sum 0 9999))]) ∧ OwnI w.heap.size w' v (shareR l x sum)) ∧ G w w' := by
  have HL := Lib.hid hL
  have HX := Lib.hid hB
  clear hL hB
  go_enter Try.func29, Try.ntmps29
  go_upto_region 1 with fail
  generalize hW : (w.alloc _).alloc _ = W
  obtain ⟨hB, k1, k2⟩ := boxes2 hW
  have f0 : W.cell? ⟨w.heap.size, 0, none⟩ = some (.int .i64 l.lo) := k1 0 _ rfl
  have f1 : W.cell? ⟨w.heap.size, 1, none⟩ = some (.int .i64 l.hi) := k1 1 _ rfl
  have f2 : W.cell? ⟨w.heap.size, 2, none⟩ = some (.slice A l.gs.length cA) := k1 2 _ rfl
  have f3 : W.cell? ⟨w.heap.size, 3, none⟩ = some (.slice C l.cs.length cC) := k1 3 _ rfl
  have f4 : W.cell? ⟨w.heap.size + 1, 0, none⟩ = some (.int .i64 x.r) := k2 0 _ rfl
  have f5 : W.cell? ⟨w.heap.size + 1, 1, none⟩ = some (.slice B x.bs.length cB) := k2 1 _ rfl
  clear hW k1 k2
  have t0 := cell_lt f0
  have t1 := cell_lt f4
  go_cut [8, 9] (fun v8 v9 wc => ∃ g : Nat, v8 = .pointer (some ⟨g, 0, none⟩) ∧ v9 = .int .i64 (cErr l x (inB sum 0 9999)) ∧ Hid (Blk wc g 128 #[.int .i64 (cZ l x).r, .int .i64 ((cZ l x).b 0), .int .i64 ((cZ l x).b 1), .int .i64 ((cZ l x).b 2), .int .i64 ((cZ l x).b 3)]) ∧ G W wc)
  case first =>
    go_region_held3 (fun w' => w'.cell? ⟨w.heap.size, 0, none⟩ = some (.int .i64 l.lo) ∧ w'.cell? ⟨w.heap.size, 1, none⟩ = some (.int .i64 l.hi) ∧ w'.cell? ⟨w.heap.size, 2, none⟩ = some (.slice A l.gs.length cA) ∧ w'.cell? ⟨w.heap.size, 3, none⟩ = some (.slice C l.cs.length cC) ∧ w'.cell? ⟨w.heap.size + 1, 0, none⟩ = some (.int .i64 x.r) ∧ w'.cell? ⟨w.heap.size + 1, 1, none⟩ = some (.slice B x.bs.length cB))
      (first | with_reducible exact ⟨hW1.cell f0, hW1.cell f1, hW1.cell f2, hW1.cell f3, hW1.cell f4, hW1.cell f5⟩ | with_reducible exact ⟨(hW1.alloc _).cell f0, (hW1.alloc _).cell f1, (hW1.alloc _).cell f2, (hW1.alloc _).cell f3, (hW1.alloc _).cell f4, (hW1.alloc _).cell f5⟩ | with_reducible exact ⟨((G.refl W).alloc _).drew.cell f0, ((G.refl W).alloc _).drew.cell f1, ((G.refl W).alloc _).drew.cell f2, ((G.refl W).alloc _).drew.cell f3, ((G.refl W).alloc _).drew.cell f4, ((G.refl W).alloc _).drew.cell f5⟩ | exact (fun (h : G W _) => ⟨h.cell f0, h.cell f1, h.cell f2, h.cell f3, h.cell f4, h.cell f5⟩) (G.setCell (G.setCell (G.setCell (G.setCell (G.setCell hW1 (p := ⟨W.heap.size, 0, none⟩) (Nat.le_refl _) _) (p := ⟨W.heap.size, 1, none⟩) (Nat.le_refl _) _) (p := ⟨W.heap.size, 2, none⟩) (Nat.le_refl _) _) (p := ⟨W.heap.size, 3, none⟩) (Nat.le_refl _) _) (p := ⟨W.heap.size, 4, none⟩) (Nat.le_refl _) _) | go_keep)
      ((first | (go_at_call 78; refine (within_c _ _ _ _).mono ?_; rintro e w' ⟨rfl, rfl⟩) | (go_at_call 77; refine (counted_c l A C B cA cC cB x (inB sum 0 9999) _ (HL.out.grow (hB.trans (by first | with_reducible exact (G.refl _).drew | with_reducible exact ((G.refl _).alloc _).drew))) (HX.out.grow (hB.trans (by first | with_reducible exact (G.refl _).drew | with_reducible exact ((G.refl _).alloc _).drew))) hg hc hx).mono ?_; rintro e w1 ⟨rfl, hb1⟩; have hW1 : G W w1 := G.trans (by first | with_reducible exact (G.refl _).drew | with_reducible exact ((G.refl _).alloc _).drew) hb1; (first | ((with_reducible have q := zero5 hb1); have q0 := q.1; have q1 := q.2.1; have q2 := q.2.2.1; have q3 := q.2.2.2.1; have q4 := q.2.2.2.2.1; have p0 := q.2.2.2.2.2.1; have p1 := q.2.2.2.2.2.2.1; have p2 := q.2.2.2.2.2.2.2.1; have p3 := q.2.2.2.2.2.2.2.2.1; have p4 := q.2.2.2.2.2.2.2.2.2.1; have s0 := q.2.2.2.2.2.2.2.2.2.2.1; have HZ := q.2.2.2.2.2.2.2.2.2.2.2; clear q) | skip))))
    · go_wp2_with fail
      go_meet
      exact ⟨w1.heap.size, rfl, rfl, Blk.new _ _ _, hW1.alloc _⟩
    · go_wp2_with fail
      go_meet
      exact ⟨W.heap.size, rfl, rfl, ((((HZ.out.set 0 _).set 1 _).set 2 _).set 3 _).set 4 _, (G.setCell (G.setCell (G.setCell (G.setCell (G.setCell hW1 (p := ⟨W.heap.size, 0, none⟩) (Nat.le_refl _) _) (p := ⟨W.heap.size, 1, none⟩) (Nat.le_refl _) _) (p := ⟨W.heap.size, 2, none⟩) (Nat.le_refl _) _) (p := ⟨W.heap.size, 3, none⟩) (Nat.le_refl _) _) (p := ⟨W.heap.size, 4, none⟩) (Nat.le_refl _) _)⟩
    · go_wp2_with fail
      go_meet
      exact ⟨W.heap.size, rfl, rfl, ((((HZ.out.set 0 _).set 1 _).set 2 _).set 3 _).set 4 _, (G.setCell (G.setCell (G.setCell (G.setCell (G.setCell hW1 (p := ⟨W.heap.size, 0, none⟩) (Nat.le_refl _) _) (p := ⟨W.heap.size, 1, none⟩) (Nat.le_refl _) _) (p := ⟨W.heap.size, 2, none⟩) (Nat.le_refl _) _) (p := ⟨W.heap.size, 3, none⟩) (Nat.le_refl _) _) (p := ⟨W.heap.size, 4, none⟩) (Nat.le_refl _) _)⟩
  case rest =>
    obtain ⟨g, rfl, rfl, HB, hbr⟩ := hcut
    by_cases he : cErr l x (inB sum 0 9999) = 0
    · obtain ⟨hf, hi, hs⟩ := cErr_zero he
      have HV := Lib.hid (valid_of hf)
      have HK := Lib.hid (cntOk_of HV.out hi)
      have HZ := Lib.hid (show cZ l x = x by unfold cZ; rw [if_pos ⟨hf, hi⟩])
      have HE := Lib.hid he
      have HP := Lib.hid (show shareR l x sum = shareL (dues l x) sum by unfold shareR; rw [if_pos he])
      have hs2 := inB_iff.1 hs
      rw [HE.out]
      have HB2 := Lib.hid (show Blk wc g 128 #[.int .i64 x.r, .int .i64 (x.b 0), .int .i64 (x.b 1), .int .i64 (x.b 2), .int .i64 (x.b 3)] by have h := HB.out; rw [HZ.out] at h; exact h)
      have c0 : wc.cell? ⟨g, 0, none⟩ = some (.int .i64 x.r) := HB2.out.cell 0 rfl
      have c1 : wc.cell? ⟨g, 1, none⟩ = some (.int .i64 (x.b 0)) := HB2.out.cell 1 rfl
      have c2 : wc.cell? ⟨g, 2, none⟩ = some (.int .i64 (x.b 1)) := HB2.out.cell 2 rfl
      have c3 : wc.cell? ⟨g, 3, none⟩ = some (.int .i64 (x.b 2)) := HB2.out.cell 3 rfl
      have c4 : wc.cell? ⟨g, 4, none⟩ = some (.int .i64 (x.b 3)) := HB2.out.cell 4 rfl
      clear he hf hi hs HB
      replace f0 := hbr.cell f0
      replace f1 := hbr.cell f1
      replace f2 := hbr.cell f2
      replace f3 := hbr.cell f3
      clear f4 f5
      go_wp2_with fail
      refine (dues_c l A C cA cC x _ HV.out HK.out (HL.out.g.grow (hB.trans hbr))).mono ?_
      rintro e w2 ⟨⟨v, rfl, hown⟩, hb2⟩
      obtain ⟨D, cD, rfl, -, hrow⟩ := hown.row
      have HR := Lib.hid hrow
      have HLen := Lib.hid (dues_len l x)
      clear hown hrow
      have hng := HV.out.ng
      go_wp2_with fail
      refine (share_c D cD (dues l x) sum _ HR.out (by rw [HLen.out]; omega) (dues_bd HV.out HK.out) (by omega) (by omega)).mono ?_
      rintro e w3 ⟨⟨v, rfl, hown⟩, hb3⟩
      have hG3 := hB.trans (hbr.trans (hb2.trans hb3))
      have HO := Lib.hid (OwnI.lower hown (hB.trans (hbr.trans hb2)).size)
      clear hown
      go_wp2
      go_ret2
      exact ⟨⟨v, by rw [HE.out]; try rfl, by rw [HP.out]; exact HO.out⟩, hG3⟩
    · have HP := Lib.hid (show shareR l x sum = [] by unfold shareR; rw [if_neg he])
      have hne : (cErr l x (inB sum 0 9999) != 0) = true := by simp [he]
      clear he
      go_wp2
      go_ret2
      exact ⟨⟨_, rfl, by rw [HP.out]; exact OwnI.nil _ _⟩, hB.trans hbr⟩
end Go.Proofs.Ytogdhkecpjndlaa.C

/- All counts of a ledger, in the program's order. -/
namespace Go.Proofs.Ytogdhkecpjndlaa.C

def steps (g : T3) : Nat := (sz g).toNat
/-- All choices of bundles, grower by grower. -/
def choices : List T3 → List (List Int)
  | [] => [[]]
  | g :: gs => (List.range (steps g)).flatMap fun (n : Nat) => (choices gs).map fun t => (g.lo + (n : Int)) :: t
def rates (l : Led) : List Int := (List.range (l.hi - l.lo + 1).toNat).map fun (k : Nat) => l.lo + (k : Int)
def countsAt (l : Led) (r : Int) : List Cn := (choices l.gs).map fun bs => ⟨r, bs⟩
def countsL (l : Led) : List Cn := (rates l).flatMap (countsAt l)

theorem choices_mem : ∀ (gs : List T3) (bs : List Int), bs ∈ choices gs ↔ bs.length = gs.length ∧ okBs bs gs = true
  | [], bs => by cases bs <;> simp [choices, okBs]
  | g :: gs, bs => by
    rw [choices]
    simp only [List.mem_flatMap, List.mem_map, List.mem_range]
    constructor
    · rintro ⟨n, hn, t, ht, rfl⟩
      have h := (choices_mem gs t).1 ht
      have hn' : (n : Int) < sz g := by unfold steps at hn; omega
      refine ⟨by simp [h.1], ?_⟩
      rw [okBs, h.2, Bool.and_true, inB_iff]
      unfold sz at hn'
      omega
    · rintro ⟨h1, h2⟩
      cases bs with
      | nil => simp at h1
      | cons b bs =>
        rw [okBs, Bool.and_eq_true, inB_iff] at h2
        refine ⟨(b - g.lo).toNat, by unfold steps sz; omega, bs, (choices_mem gs bs).2 ⟨by simpa using h1, h2.2⟩, by rw [show g.lo + ((b - g.lo).toNat : Int) = b by omega]⟩
theorem countsL_mem (l : Led) (c : Cn) : c ∈ countsL l ↔ isCnt l c = true := by
  unfold countsL rates countsAt isCnt
  simp only [List.mem_flatMap, List.mem_map, List.mem_range, Bool.and_eq_true, decide_eq_true_eq]
  constructor
  · rintro ⟨r, ⟨k, hk, rfl⟩, bs, hb, rfl⟩
    have h := (choices_mem _ _).1 hb
    exact ⟨inB_iff.2 (by constructor <;> (simp only []; omega)), h.1, h.2⟩
  · rintro ⟨h0, h1, h2⟩
    have := inB_iff.1 h0
    exact ⟨c.r, ⟨(c.r - l.lo).toNat, by omega, by omega⟩, c.bs, (choices_mem _ _).2 ⟨h1, h2⟩, rfl⟩

end Go.Proofs.Ytogdhkecpjndlaa.C
