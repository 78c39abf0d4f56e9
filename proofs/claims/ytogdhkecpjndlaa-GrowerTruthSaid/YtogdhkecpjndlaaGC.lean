/- Texts joined: C12 C13 C14 M0 F0 F1 A1 C15. -/
import Derived.Test.YtogdhkecpjndlaaGB
import Derived.RangeFuncNested
import Derived.RangeFuncBound
import Derived.RangeFuncCalls
import Derived.RangeFuncLeaves
import Derived.Shelf.Abstract
import Derived.Shelf.RegionOpen
import Derived.OwnWalkIn
import Derived.TacticsInMore
import Derived.LoopNIn
import Derived.LoopIn
import Derived.Laws.EntriesVeiled
import Derived.Test.YtogdhkecpjndlaaGA
import Derived.DeepKeys4
import Derived.WideKeyEntry
import Derived.Maps.RangeWalk
import Derived.Maps.OwnSet
import Derived.KernelRfl
import Derived.ChangeKeysEq
import Derived.StillTail
import Derived.StillTailTactics
import Derived.OrdersIn
import Derived.OrdersHeld
set_option linter.unusedSimpArgs false
set_option linter.unusedVariables false
/- The iterator of all counts: for whatever loop body keeps what lay and the iterator's own blocks. -/
namespace Go.Proofs.Ytogdhkecpjndlaa.C
open Go.RowKit Go.Shelf
set_option maxRecDepth 100000

/-- The iterator's steps: its three blocks alone may turn. -/
structure ItStep (B : Nat) (W1 W2 : World) : Prop where
  os : W2.os = W1.os
  tape : W2.tape = W1.tape
  output : W2.output = W1.output
  size : W1.heap.size ≤ W2.heap.size
  block : ∀ k, k < W1.heap.size → ¬ (B ≤ k ∧ k < B + 3) → W2.heap[k]? = W1.heap[k]?
/-- What a round keeps: what lay below n0, the ledger's box, the iterator's three blocks. -/
structure ItKeep (n0 bl B : Nat) (W1 W2 : World) : Prop where
  low : Below n0 W1 W2
  led : W2.heap[bl]? = W1.heap[bl]?
  own : ∀ k, B ≤ k → k < B + 3 → W2.heap[k]? = W1.heap[k]?

theorem ItStep.refl (B : Nat) (W : World) : ItStep B W W := ⟨rfl, rfl, rfl, Nat.le_refl _, fun _ _ _ => rfl⟩
theorem ItStep.trans {B : Nat} {a b c : World} (h : ItStep B a b) (k : ItStep B b c) : ItStep B a c :=
  ⟨k.os.trans h.os, k.tape.trans h.tape, k.output.trans h.output, Nat.le_trans h.size k.size, fun i hi hn => (k.block i (Nat.lt_of_lt_of_le hi h.size) hn).trans (h.block i hi hn)⟩
theorem ItStep.of_grow {B : Nat} {a b : World} (h : G a b) : ItStep B a b := ⟨h.os, h.tape, h.output, h.size, fun i hi _ => h.block i hi⟩
theorem ItStep.setCell {B : Nat} (W : World) {p : Addr} (h : B ≤ p.block ∧ p.block < B + 3) (v : Value) : ItStep B W (W.setCell p v) :=
  ⟨rfl, rfl, rfl, by simp [World.setCell], fun k _ hn => Below.heap_setCell W p v k (fun e => hn (e ▸ h))⟩

def arrV (r : Int) (arr : List Int) : Array Value := #[.int .i64 r, .int .i64 (arr.getD 0 0), .int .i64 (arr.getD 1 0), .int .i64 (arr.getD 2 0), .int .i64 (arr.getD 3 0)]
abbrev ptr (b : Nat) : Value := .pointer (some ⟨b, 0, none⟩)
/-- What the iterator's walk knows of a world. -/
structure ItF (w : World) (l : Led) (A : Option Addr) (cA : Nat) (Cv : Value) (bl B lr : Nat) (r : Int) (arr : List Int) (W : World) : Prop where
  g : G w W
  led : Blk W bl 38 #[.int .i64 l.lo, .int .i64 l.hi, .slice A l.gs.length cA, Cv]
  y : Blk W B 162 #[.func (.yield lr) #[] #[]]
  c : Blk W (B + 1) 128 (arrV r arr)
  ch : Blk W (B + 2) 160 #[.func (.func 122) #[] #[ptr bl, ptr B, ptr (B + 1), ptr (B + 2)]]

section
variable {w : World} {l : Led} {A : Option Addr} {cA : Nat} {Cv : Value} {bl B lr : Nat} {r : Int} {arr : List Int} {W W' : World}
theorem ItF.keep (h : ItF w l A cA Cv bl B lr r arr W) (hk : ItKeep w.heap.size bl B W W') : ItF w l A cA Cv bl B lr r arr W' :=
  ⟨Below.trans h.g hk.low, hk.led.trans h.led, (hk.own B (Nat.le_refl _) (by omega)).trans h.y, (hk.own (B + 1) (by omega) (by omega)).trans h.c, (hk.own (B + 2) (by omega) (by omega)).trans h.ch⟩
theorem ItF.grow (h : ItF w l A cA Cv bl B lr r arr W) (hk : G W W') : ItF w l A cA Cv bl B lr r arr W' := ⟨h.g.trans hk, h.led.grow hk, h.y.grow hk, h.c.grow hk, h.ch.grow hk⟩

def restL (l : Led) (r : Int) (i : Nat) (arr : List Int) : List Cn := (choices (l.gs.drop i)).map fun t => ⟨r, arr.take i ++ t⟩
/-- How a call of choose ends. -/
def ChPost (w : World) (l : Led) (A : Option Addr) (cA : Nat) (Cv : Value) (bl B lr : Nat) (r : Int) (J Jx : List Cn → World → Prop) (i : Nat) (arr : List Int) (pre : List Cn) (e : Ending) (W' : World) : Prop :=
  (∃ arr' : List Int, e = .returned (.bool true) ∧ arr'.length = 4 ∧ arr'.take i = arr.take i ∧ (∀ j, l.gs.length ≤ j → arr'.getD j 0 = 0) ∧ ItF w l A cA Cv bl B lr r arr' W' ∧ J (pre ++ restL l r i arr) W') ∨
  (e = .returned (.bool false) ∧ ∃ q, q <+: restL l r i arr ∧ Jx (pre ++ q) W')

theorem arrV_at (r : Int) (arr : List Int) (i : Nat) (h : i < 4) : (arrV r arr)[1 + i]? = some (.int .i64 (arr.getD i 0)) := by
  match i, h with
  | 0, _ => rfl
  | 1, _ => rfl
  | 2, _ => rfl
  | 3, _ => rfl
theorem arr_cnt {l : Led} {arr : List Int} (h4 : arr.length = 4) (hz : ∀ j, l.gs.length ≤ j → arr.getD j 0 = 0) (hn : l.gs.length ≤ 4) : Value.agg (arrV r arr) = cntV ⟨r, arr.take l.gs.length⟩ := by
  have hb : ∀ j, j < 4 → (⟨r, arr.take l.gs.length⟩ : Cn).b j = arr.getD j 0 := fun j hj => by
    unfold Cn.b
    by_cases h : j < l.gs.length
    · simp [List.getD, List.getElem?_take, h]
    · rw [hz j (by omega)]
      simp [List.getD, List.getElem?_take, h]
  unfold arrV cntV
  rw [hb 0 (by omega), hb 1 (by omega), hb 2 (by omega), hb 3 (by omega)]

set_option maxHeartbeats 2000000 in
theorem leaf_c {J Jx : List Cn → World → Prop} (hng : l.gs.length ≤ 4) (h4 : arr.length = 4) (hz : ∀ j, l.gs.length ≤ j → arr.getD j 0 = 0) (pre : List Cn)
    (hF : ItF w l A cA Cv bl B lr r arr W)
    (hY : YieldAt Fence.wide 4 Try.prog lr #[cntV ⟨r, arr.take l.gs.length⟩] W fun e W' => (e = .returned (.bool true) ∧ J (pre ++ [⟨r, arr.take l.gs.length⟩]) W' ∧ ItKeep w.heap.size bl B W W') ∨ (e = .returned (.bool false) ∧ Jx (pre ++ [⟨r, arr.take l.gs.length⟩]) W')) :
    Calls Try.prog 122 #[.int .i64 l.gs.length, ptr bl, ptr B, ptr (B + 1), ptr (B + 2)] W fun e W' => (e = .returned (.bool true) ∧ J (pre ++ [⟨r, arr.take l.gs.length⟩]) W' ∧ ItKeep w.heap.size bl B W W') ∨ (e = .returned (.bool false) ∧ Jx (pre ++ [⟨r, arr.take l.gs.length⟩]) W') := by
  obtain ⟨fn, tmps, assign, body, hy, hR⟩ := hY
  rw [← arr_cnt h4 hz hng] at hy
  have f0 : W.cell? ⟨bl, 2, none⟩ = some (.slice A l.gs.length cA) := hF.led.cell 2 rfl
  have f1 : W.cell? ⟨B, 0, none⟩ = some (.func (.yield lr) #[] #[]) := hF.y.cell 0 rfl
  have c0 : W.cell? ⟨B + 1, 0, none⟩ = some (.int .i64 r) := hF.c.cell 0 rfl
  have c1 : W.cell? ⟨B + 1, 1, none⟩ = some (.int .i64 (arr.getD 0 0)) := hF.c.cell 1 rfl
  have c2 : W.cell? ⟨B + 1, 2, none⟩ = some (.int .i64 (arr.getD 1 0)) := hF.c.cell 2 rfl
  have c3 : W.cell? ⟨B + 1, 3, none⟩ = some (.int .i64 (arr.getD 2 0)) := hF.c.cell 3 rfl
  have c4 : W.cell? ⟨B + 1, 4, none⟩ = some (.int .i64 (arr.getD 3 0)) := hF.c.cell 4 rfl
  unfold arrV at hy
  generalize arr.getD 0 0 = a0 at *
  generalize arr.getD 1 0 = a1 at *
  generalize arr.getD 2 0 = a2 at *
  generalize arr.getD 3 0 = a3 at *
  clear hF hz
  refine (callsIn_wide (n := 5)).1 ?_
  refine callsIn_of_wp Try.func122 rfl trivial ?_ rfl
  simp only [Try.ntmps122, List.size_toArray, List.length_cons, List.length_nil, Nat.reduceAdd, Nat.reduceSub, Array.replicate_succ, Array.replicate_zero, List.push_toArray, List.append_toArray, List.nil_append, List.cons_append]
  gi_wp2
  refine hR.mono ?_
  intro e W' h
  rcases h with ⟨rfl, h⟩ | ⟨rfl, h⟩
  · dsimp only
    gi_wp2
    go_ret
    exact .inl ⟨rfl, h⟩
  · dsimp only
    gi_wp2
    go_ret
    exact .inr ⟨rfl, h⟩

theorem ItF.set (h : ItF w l A cA Cv bl B lr r arr W) (hl : bl < B) (hw : w.heap.size ≤ bl) {i : Nat} (hi : i < 4) (h4 : arr.length = 4) (v : Int) : ItF w l A cA Cv bl B lr r (arr.set i v) (W.setCell ⟨B + 1, 1 + i, none⟩ (.int .i64 v)) := by
  refine ⟨h.g.setCell (by simp; omega) _, h.led.far (by simp; omega) _, h.y.far (by simp) _, ?_, h.ch.far (by simp) _⟩
  have := h.c.set (1 + i) (.int .i64 v)
  unfold Blk at this ⊢
  rw [this]
  obtain ⟨a, b, c, d, rfl⟩ : ∃ a b c d, arr = [a, b, c, d] := by
    match arr, h4 with
    | [a, b, c, d], _ => exact ⟨a, b, c, d, rfl⟩
  match i, hi with
  | 0, _ => rfl
  | 1, _ => rfl
  | 2, _ => rfl
  | 3, _ => rfl

/-- What has come when k numbers of a grower's bundles are over. -/
def cameK (l : Led) (r : Int) (i k : Nat) (g : T3) (arr : List Int) : List Cn := (List.range k).flatMap fun (n : Nat) => (choices (l.gs.drop (i + 1))).map fun t => ⟨r, arr.take i ++ (g.lo + (n : Int)) :: t⟩
theorem cameK_all {i : Nat} (hi : i < l.gs.length) : cameK l r i (steps l.gs[i]) l.gs[i] arr = restL l r i arr := by
  unfold cameK restL
  rw [List.drop_eq_getElem_cons hi, choices, List.map_flatMap]
  congr 1
  funext n
  rw [List.map_map]
  rfl
theorem cameK_succ {i k : Nat} (g : T3) {arr2 : List Int} (h4 : arr2.length = 4) (hi : i < 4) (ht : arr2.take i = arr.take i) : cameK l r i (k + 1) g arr = cameK l r i k g arr ++ restL l r (i + 1) (arr2.set i (g.lo + (k : Int))) := by
  unfold cameK restL
  rw [List.range_succ, List.flatMap_append]
  simp only [List.flatMap_cons, List.flatMap_nil, List.append_nil]
  congr 1
  have : (arr2.set i (g.lo + (k : Int))).take (i + 1) = arr.take i ++ [g.lo + (k : Int)] := by
    rw [List.take_succ_eq_append_getElem (by simp; omega), List.take_set_of_le (Nat.le_refl _), ht]
    simp
  rw [this]
  apply List.map_congr_left
  intro t _
  simp
theorem cameK_pre {i : Nat} (hi : i < l.gs.length) {k : Nat} (hk : k ≤ steps l.gs[i]) : cameK l r i k l.gs[i] arr <+: restL l r i arr := by
  rw [← cameK_all hi]
  unfold cameK
  obtain ⟨m, hm⟩ := Nat.exists_eq_add_of_le hk
  rw [hm, List.range_add, List.flatMap_append]
  exact List.prefix_append _ _

set_option maxHeartbeats 4000000 in
theorem choose_c {J Jx : List Cn → World → Prop} (hV : Valid l) (hbl : bl < B) (hw : w.heap.size ≤ bl) (hG : Row3 w A l.gs)
    (hY : ∀ pre x W, B + 3 ≤ W.heap.size → pre ++ [x] <+: countsL l → J pre W → YieldAt Fence.wide 4 Try.prog lr #[cntV x] W fun e W' => (e = .returned (.bool true) ∧ J (pre ++ [x]) W' ∧ ItKeep w.heap.size bl B W W') ∨ (e = .returned (.bool false) ∧ Jx (pre ++ [x]) W'))
    (hJ : ∀ pre W1 W2, J pre W1 → ItStep B W1 W2 → J pre W2) :
    ∀ (d i : Nat), i + d = l.gs.length → ∀ (arr : List Int) (pre : List Cn) (W : World), arr.length = 4 → (∀ j, l.gs.length ≤ j → arr.getD j 0 = 0) → ItF w l A cA Cv bl B lr r arr W → pre ++ restL l r i arr <+: countsL l → J pre W →
      Calls Try.prog 122 #[.int .i64 i, ptr bl, ptr B, ptr (B + 1), ptr (B + 2)] W fun e W' => ChPost w l A cA Cv bl B lr r J Jx i arr pre e W' := by
  intro d
  induction d with
  | zero =>
    intro i hi arr pre W h4 hz hF hp h0
    obtain rfl : i = l.gs.length := by omega
    refine (leaf_c hV.ng h4 hz pre hF (hY pre _ W (by have := hF.ch.lt; omega) (by simpa [restL, choices] using hp) h0)).mono ?_
    rintro e W' (⟨rfl, h1, h2⟩ | ⟨rfl, h1⟩)
    · refine .inl ⟨arr, rfl, h4, rfl, hz, hF.keep h2, ?_⟩
      simpa [restL, choices] using h1
    · refine .inr ⟨rfl, [⟨r, arr.take l.gs.length⟩], by simp [restL, choices], h1⟩
  | succ d ih =>
    intro i hi arr pre W h4 hz hF hp h0
    have hlt : i < l.gs.length := by omega
    have hi4 : i < 4 := by have := hV.ng; omega
    have hgv := hV.g l.gs[i] (List.getElem_mem hlt)
    obtain ⟨b, off, rfl, d0, d1, d2⟩ := hG.at hlt
    have HP := Lib.hid hp
    clear hp
    have HC := Lib.hid (fun (k : Nat) (hk : k ≤ steps l.gs[i]) => cameK_pre (r := r) (arr := arr) hlt hk)
    have HA := Lib.hid (cameK_all (r := r) (arr := arr) hlt)
    have hsz : (steps l.gs[i] : Int) = l.gs[i].hi - l.gs[i].lo + 1 := by unfold steps sz; omega
    generalize l.gs[i] = g at *
    have HI := Lib.hid ih
    have HJ := Lib.hid hJ
    have HZ := Lib.hid hz
    have HG0 := Lib.hid h4
    have hne : (i : Int) ≠ l.gs.length := by omega
    have hil : (i : Int) < l.gs.length := by omega
    have hi0 : (0 : Int) ≤ i := by omega
    have HHi := Lib.hid hi
    have HHlt := Lib.hid hlt
    have HZ4 := Lib.hid hi4
    have f0 : W.cell? ⟨bl, 2, none⟩ = some (.slice (some ⟨b, off, none⟩) l.gs.length cA) := hF.led.cell 2 rfl
    have e1 := hF.g.cell d1
    have e2 := hF.g.cell d2
    clear ih hJ hz h4 hY hi hlt
    go_enter Try.func122, Try.ntmps122
    go_wp2_with (go_at_call 103; refine (size_c _ _ _ (by omega) (by omega) (by omega)).mono ?_; rintro e w' ⟨rfl, hb⟩)
    go_loopw [6, 23] (fun v6 v23 wr => ∃ (k : Nat) (arr2 : List Int), (k : Int) ≤ g.hi - g.lo + 1 ∧ v6 = .bool false ∧ v23 = .int .i64 k ∧ Hid (arr2.length = 4) ∧ Hid (arr2.take i = arr.take i) ∧ Hid (∀ j, l.gs.length ≤ j → arr2.getD j 0 = 0) ∧ ItF w l (some ⟨b, off, none⟩) cA Cv bl B lr r arr2 wr ∧ J (pre ++ cameK l r i k g arr) wr) (fun _ v23 _ => 100 - (intOf v23).toNat)
    case atStart => exact ⟨0, arr, by omega, rfl, rfl, HG0, by simp [Hid], HZ, hF.grow hb, HJ.out _ _ _ (by simpa [cameK] using h0) (ItStep.of_grow hb)⟩
    case round =>
      obtain ⟨k, arr2, hk, rfl, rfl, H4, HT, HZ2, hF2, hJ2⟩ := hrel
      have f0r : wr.cell? ⟨bl, 2, none⟩ = some (.slice (some ⟨b, off, none⟩) l.gs.length cA) := hF2.led.cell 2 rfl
      have e1r := hF2.g.cell d1
      have e2r := hF2.g.cell d2
      have f3r : wr.cell? ⟨B + 2, 0, none⟩ = some (.func (.func 122) #[] #[ptr bl, ptr B, ptr (B + 1), ptr (B + 2)]) := hF2.ch.cell 0 rfl
      obtain ⟨old, ho⟩ : ∃ v, wr.cell? ⟨B + 1, 1 + i, none⟩ = some (.int .i64 v) := ⟨_, hF2.c.cell (1 + i) (arrV_at _ _ i HZ4.out)⟩
      have hfz : wr.frozen? ⟨B + 1, 1 + i, none⟩ = false := hF2.c.frozen _
      by_cases hlt : (k : Int) < g.hi - g.lo + 1
      · go_wp2_with fail
        have hF3 := hF2.set hbl hw HZ4.out H4.out (g.lo + k)
        have HPk : Hid ((pre ++ cameK l r i k g arr) ++ restL l r (i + 1) (arr2.set i (g.lo + (k : Int))) <+: countsL l) := by
          have h1 := HC.out (k + 1) (by omega)
          rw [cameK_succ g H4.out HZ4.out HT.out] at h1
          unfold Hid
          rw [List.append_assoc]
          exact ((List.prefix_append_right_inj _).2 h1).trans HP.out
        have hh := HI.out (i + 1) (by have := HHi.out; omega) (arr2.set i (g.lo + k)) (pre ++ cameK l r i k g arr) _ (by simp [H4.out]) (fun j hj => by have := HHlt.out; rw [List.getD_eq_getElem?_getD, List.getElem?_set_ne (by omega), ← List.getD_eq_getElem?_getD]; exact HZ2.out j hj) hF3 HPk.out (HJ.out _ _ _ hJ2 (ItStep.setCell _ (by simp) _))
        rw [show (((i + 1 : Nat)) : Int) = (i : Int) + 1 from rfl] at hh
        refine hh.mono ?_
        clear hh
        have HS := Lib.hid (cameK_succ (l := l) (r := r) (arr := arr) g (k := k) H4.out HZ4.out HT.out)
        have HC2 := Lib.hid (HC.out (k + 1) (by omega))
        rintro e W3 (⟨arr3, rfl, h30, h31, h32, h33, h34⟩ | ⟨rfl, h3⟩)
        · have H30 := Lib.hid h30
          have H31 := Lib.hid h31
          have H32 := Lib.hid h32
          clear h30 h31 h32
          dsimp only
          go_wp2_with fail
          go_roundw
          case rel =>
            refine ⟨k + 1, arr3, by omega, rfl, by go_num, H30, ?_, H32, h33, by rw [HS.out, ← List.append_assoc]; exact h34⟩
            have h := H31.out
            have h4 := HT.out
            have h5 : arr3.take i = ((arr2.set i (g.lo + ↑k)).take (i + 1)).take i := by rw [← h, List.take_take, Nat.min_eq_left (by omega)]
            rw [Hid, h5, List.take_take, Nat.min_eq_left (by omega), List.take_set_of_le (Nat.le_refl _), h4]
          case measure => simp [intOf]; omega
        · have H3 := Lib.hid h3
          clear h3
          dsimp only
          go_wp2_with fail
          go_ret
          obtain ⟨q, hq, hx⟩ := H3.out
          refine .inr ⟨rfl, cameK l r i k g arr ++ q, ?_, by rw [← List.append_assoc]; exact hx⟩
          rw [HS.out] at HC2
          exact ((List.prefix_append_right_inj _).2 hq).trans HC2.out
      · have hk2 : k = steps g := by omega
        go_wp2_with fail
        go_ret
        refine .inl ⟨arr2, rfl, H4.out, HT.out, HZ2.out, hF2, ?_⟩
        rw [← HA.out, ← hk2]
        exact hJ2
end

/-- What rates are over when k of them are. -/
def cameR (l : Led) (k : Nat) : List Cn := (List.range k).flatMap fun (n : Nat) => countsAt l (l.lo + (n : Int))
theorem cameR_succ (l : Led) (k : Nat) : cameR l (k + 1) = cameR l k ++ countsAt l (l.lo + (k : Int)) := by
  unfold cameR
  rw [List.range_succ, List.flatMap_append]
  simp
theorem cameR_all (l : Led) : cameR l (l.hi - l.lo + 1).toNat = countsL l := by
  unfold cameR countsL rates
  rw [List.flatMap_map]
theorem cameR_pre (l : Led) {k : Nat} (hk : (k : Int) ≤ l.hi - l.lo + 1) : cameR l k <+: countsL l := by
  rw [← cameR_all]
  unfold cameR
  obtain ⟨m, hm⟩ := Nat.exists_eq_add_of_le (show k ≤ (l.hi - l.lo + 1).toNat by omega)
  rw [hm, List.range_add, List.flatMap_append]
  exact List.prefix_append _ _

/-- How far the rate is from 100. -/
def rateLeft (w : World) (B : Nat) : Nat := match w.cell? ⟨B + 1, 0, none⟩ with
  | some (.int _ r) => (100 - r).toNat
  | _ => 0

set_option maxHeartbeats 4000000 in
theorem counts1_c {w : World} {l : Led} {A : Option Addr} {cA : Nat} {Cv : Value} {bl lr : Nat} {W0 : World} {J Jx : List Cn → World → Prop} (hV : Valid l) (hbl : bl < W0.heap.size) (hw : w.heap.size ≤ bl) (hG : Row3 w A l.gs)
    (hY : ∀ pre x W, W0.heap.size + 3 ≤ W.heap.size → pre ++ [x] <+: countsL l → J pre W → YieldAt Fence.wide 4 Try.prog lr #[cntV x] W fun e W' => (e = .returned (.bool true) ∧ J (pre ++ [x]) W' ∧ ItKeep w.heap.size bl W0.heap.size W W') ∨ (e = .returned (.bool false) ∧ Jx (pre ++ [x]) W'))
    (hJ : ∀ pre W1 W2, J pre W1 → ItStep W0.heap.size W1 W2 → J pre W2)
    (hB : G w W0) (hL : Blk W0 bl 38 #[.int .i64 l.lo, .int .i64 l.hi, .slice A l.gs.length cA, Cv]) (h0 : J [] W0) :
    Calls Try.prog 121 #[.func (.yield lr) #[] #[], ptr bl] W0 fun e W' => (∃ v, e = .returned v) ∧ (J (countsL l) W' ∨ ∃ q, q <+: countsL l ∧ Jx q W') := by
  have HY := Lib.hid hY
  have HJ := Lib.hid hJ
  clear hY hJ
  have b0 : W0.cell? ⟨bl, 0, none⟩ = some (.int .i64 l.lo) := hL.cell 0 rfl
  go_enter Try.func121, Try.ntmps121
  go_upto_region 4 with fail
  generalize hW : ((W0.alloc _).alloc _).alloc _ = W
  have g1 : G W0 W := by rw [← hW]; exact (((G.refl _).alloc _).alloc _).alloc _
  have q0 : Blk W W0.heap.size 162 #[.func (.yield lr) #[] #[]] := by rw [← hW]; exact ((Blk.new _ _ _).grow ((G.refl _).alloc _)).grow ((G.refl _).alloc _)
  have q1 : Blk W (W0.heap.size + 1) 128 #[.int .i64 0, .int .i64 0, .int .i64 0, .int .i64 0, .int .i64 0] := by rw [← hW]; exact (Blk.new' (by simp)).grow ((G.refl _).alloc _)
  have q2 : Blk W (W0.heap.size + 2) 160 #[.func (.func 122) #[] #[ptr bl, ptr W0.heap.size, ptr (W0.heap.size + 1), ptr (W0.heap.size + 2)]] := by rw [← hW]; exact Blk.new' (by simp)
  clear hW
  have b1 := g1.cell b0
  have c0 : W.cell? ⟨W0.heap.size + 1, 0, none⟩ = some (.int .i64 0) := q1.cell 0 rfl
  have cf := q1.frozen 0
  go_wp2_with fail
  have hF0 : ItF w l A cA Cv bl W0.heap.size lr l.lo [0, 0, 0, 0] (W.setCell ⟨W0.heap.size + 1, 0, none⟩ (.int .i64 l.lo)) :=
    ⟨(hB.trans g1).setCell (by have := hB.size; simp; omega) _, (hL.grow g1).far (by simp; omega) _, q0.far (by simp) _, q1.set 0 _, q2.far (by simp) _⟩
  have hJ0 := HJ.out _ _ _ h0 ((ItStep.of_grow g1).trans (ItStep.setCell (p := ⟨W0.heap.size + 1, 0, none⟩) _ (by simp) (.int .i64 l.lo)))
  have hlo := hV.r1
  have hl0 := hV.r0
  have hl2 := hV.r2
  clear b1 c0 cf q0 q1 q2
  go_loopw [] (fun wr => ∃ (k : Nat) (arr : List Int), (k : Int) ≤ l.hi - l.lo + 1 ∧ Hid (arr.length = 4) ∧ Hid (∀ j, l.gs.length ≤ j → arr.getD j 0 = 0) ∧ ItF w l A cA Cv bl W0.heap.size lr (l.lo + (k : Int)) arr wr ∧ J (cameR l k) wr) (fun wr => rateLeft wr W0.heap.size)
  case atStart => exact ⟨0, [0, 0, 0, 0], by omega, rfl, fun j _ => by match j with | 0 => rfl | 1 => rfl | 2 => rfl | 3 => rfl | n + 4 => rfl, by simpa using hF0, by simpa [cameR] using hJ0⟩
  case round =>
    obtain ⟨k, arr, hk, H4, HZ, hF, hJ2⟩ := hrel
    have d1 : wr.cell? ⟨bl, 1, none⟩ = some (.int .i64 l.hi) := hF.led.cell 1 rfl
    have d2 : wr.cell? ⟨W0.heap.size + 1, 0, none⟩ = some (.int .i64 (l.lo + (k : Int))) := hF.c.cell 0 rfl
    have d3 : wr.cell? ⟨W0.heap.size + 1 + 1, 0, none⟩ = some (.func (.func 122) #[] #[ptr bl, ptr W0.heap.size, ptr (W0.heap.size + 1), ptr (W0.heap.size + 1 + 1)]) := hF.ch.cell 0 rfl
    by_cases hlt : l.lo + (k : Int) ≤ l.hi
    · go_wp2_with fail
      have hh := choose_c (r := l.lo + (k : Int)) hV hbl hw hG HY.out HJ.out l.gs.length 0 (by omega) arr (cameR l k) wr H4.out HZ.out hF (by have h1 := cameR_pre l (k := k + 1) (by omega); rw [cameR_succ] at h1; simpa [restL, countsAt] using h1) hJ2
      refine hh.mono ?_
      clear hh
      have HM := Lib.hid (show rateLeft wr W0.heap.size = (100 - (l.lo + (k : Int))).toNat by unfold rateLeft; rw [d2])
      have HR : Hid (restL l (l.lo + (k : Int)) 0 arr = countsAt l (l.lo + (k : Int))) := by simp [Hid, restL, countsAt]
      have HS := Lib.hid (cameR_succ l k)
      have HP := Lib.hid (cameR_pre l (k := k + 1) (by omega))
      clear d1 d2 d3
      rintro e W3 (⟨arr3, rfl, h30, h31, h32, h33, h34⟩ | ⟨rfl, h3⟩)
      · have H30 := Lib.hid h30
        have H32 := Lib.hid h32
        clear h30 h31 h32
        dsimp only
        have d2 : W3.cell? ⟨W0.heap.size + 1, 0, none⟩ = some (.int .i64 (l.lo + (k : Int))) := h33.c.cell 0 rfl
        have d4 := h33.c.frozen 0
        go_wp2_with fail
        go_roundw
        case rel =>
          refine ⟨k + 1, arr3, by omega, H30, H32, ?_, ?_⟩
          · refine ⟨h33.g.setCell (by have := hB.size; simp; omega) _, h33.led.far (by simp; omega) _, h33.y.far (by simp) _, ?_, h33.ch.far (by simp) _⟩
            have := h33.c.set 0 (.int .i64 (l.lo + (k : Int) + 1))
            rw [show l.lo + ((k + 1 : Nat) : Int) = l.lo + (k : Int) + 1 by omega]
            exact this
          · rw [HS.out, ← HR.out]
            exact HJ.out _ _ _ h34 (ItStep.setCell _ (by simp) _)
        case measure =>
          rw [HM.out]
          have := (h33.c.set 0 (.int .i64 (l.lo + (k : Int) + 1))).cell 0 (v := .int .i64 (l.lo + (k : Int) + 1)) rfl
          unfold rateLeft
          rw [this]
          dsimp only
          omega
      · have H3 := Lib.hid h3
        clear h3
        dsimp only
        go_wp2_with fail
        obtain ⟨q, hq, hx⟩ := H3.out
        refine bodyPost_ret (results_none rfl _ _ _) rfl ⟨⟨_, rfl⟩, .inr ⟨cameR l k ++ q, ?_, hx⟩⟩
        rw [HR.out] at hq
        have h2 := HP.out
        rw [HS.out] at h2
        exact ((List.prefix_append_right_inj _).2 hq).trans h2
    · have HK : Hid (k = (l.hi - l.lo + 1).toNat) := by unfold Hid; omega
      go_wp2_with fail
      go_end0
      refine ⟨⟨_, rfl⟩, .inl ?_⟩
      rw [← cameR_all, ← HK.out]
      exact hJ2
end Go.Proofs.Ytogdhkecpjndlaa.C

/- The range over all counts: one law for the callers. -/
namespace Go.Proofs.Ytogdhkecpjndlaa.C
open Go.RowKit Go.Shelf
set_option maxRecDepth 100000

/-- Steps of the loop's own: five blocks alone may turn. -/
structure Turn (n1 : Nat) (W1 W2 : World) : Prop where
  lo : n1 ≤ W1.heap.size
  os : W2.os = W1.os
  tape : W2.tape = W1.tape
  output : W2.output = W1.output
  size : W1.heap.size ≤ W2.heap.size
  block : ∀ k, k < W1.heap.size → ¬ (n1 ≤ k ∧ k < n1 + 5) → W2.heap[k]? = W1.heap[k]?
/-- What a round that goes on keeps. -/
structure Keep5 (n0 bl n1 : Nat) (W1 W2 : World) : Prop where
  low : Below n0 W1 W2
  led : W2.heap[bl]? = W1.heap[bl]?
  own : ∀ k, n1 ≤ k → k < n1 + 5 → W2.heap[k]? = W1.heap[k]?

theorem Turn.of_grow {n1 : Nat} {a b : World} (h : G a b) (hl : n1 ≤ a.heap.size) : Turn n1 a b := ⟨hl, h.os, h.tape, h.output, h.size, fun i hi _ => h.block i hi⟩
theorem Turn.of_step {n1 : Nat} {a b : World} (h : ItStep (n1 + 2) a b) (hl : n1 ≤ a.heap.size) : Turn n1 a b := ⟨hl, h.os, h.tape, h.output, h.size, fun i hi hn => h.block i hi (by omega)⟩
theorem Turn.putObj {n1 k : Nat} (W : World) (hl : n1 ≤ W.heap.size) (h : n1 ≤ k ∧ k < n1 + 5) (o : Obj) : Turn n1 W (W.putObj k o) :=
  ⟨hl, rfl, rfl, rfl, by simp [World.putObj], fun i _ hn => World.putObj_heap_other (by omega)⟩
theorem Turn.cell {n1 : Nat} {a b : World} (h : Turn n1 a b) {p : Addr} {v : Value} (hn : ¬ (n1 ≤ p.block ∧ p.block < n1 + 5)) (hc : a.cell? p = some v) : b.cell? p = some v := by
  have h1 := h.block p.block (World.block_lt_of_cell? a p hc) hn
  exact (World.cell?_of_block (w := a) h1).trans hc
theorem Turn.blk {n1 g : Nat} {t : TypeId} {cs : Array Value} {a b : World} (h : Turn n1 a b) (hn : g < n1) (hc : Blk a g t cs) : Blk b g t cs := (h.block g hc.lt (by omega)).trans hc
theorem Turn.below {n0 n1 : Nat} {a b : World} (h : Turn n1 a b) (hn : n0 ≤ n1) : Below n0 a b := ⟨h.os, h.tape, h.output, h.size, fun i hi => h.block i (by have := h.lo; omega) (by omega)⟩
theorem Keep5.refl (n0 bl n1 : Nat) (W : World) : Keep5 n0 bl n1 W W := ⟨Below.refl _ _, rfl, fun _ _ _ => rfl⟩
theorem Keep5.trans {n0 bl n1 : Nat} {a b c : World} (h : Keep5 n0 bl n1 a b) (k : Keep5 n0 bl n1 b c) : Keep5 n0 bl n1 a c :=
  ⟨Below.trans h.low k.low, k.led.trans h.led, fun i h0 h1 => (k.own i h0 h1).trans (h.own i h0 h1)⟩
theorem Keep5.of_grow {n0 bl n1 : Nat} {a b : World} (h : G a b) (h0 : n0 ≤ a.heap.size) (h1 : bl < a.heap.size) (h2 : n1 + 5 ≤ a.heap.size) : Keep5 n0 bl n1 a b :=
  ⟨h.mono h0, h.block _ h1, fun i _ hi => h.block i (by omega)⟩
theorem Keep5.setCell {n0 bl n1 : Nat} (W : World) {p : Addr} (h0 : n0 ≤ p.block) (h1 : p.block ≠ bl) (h2 : ¬ (n1 ≤ p.block ∧ p.block < n1 + 5)) (v : Value) : Keep5 n0 bl n1 W (W.setCell p v) :=
  ⟨(Below.refl _ W).setCell h0 v, Below.heap_setCell W p v bl (Ne.symm h1), fun i a b => Below.heap_setCell W p v i (fun e => h2 (e ▸ ⟨a, b⟩))⟩

def keepPost (n0 bl n1 : Nat) (I : List Cn → World → Prop) (Ix : Code → List Cn → World → Prop) (xs : List Cn) (W : World) : Exit → Act → World → Prop
  | .normal, _, W' => Keep5 n0 bl n1 W W' ∧ I xs W'
  | .ret, _, W' => Keep5 n0 bl n1 W W' ∧ Ix .ret xs W'
  | _, _, _ => False

theorem zip1 (p : Tmp) (v : Value) (ts : Array Value) : ((#[p] : Array Tmp).zip #[v]).foldl (fun t (p, v) => t.setIfInBounds p v) ts = ts.setIfInBounds p v := by
  rw [show (#[p] : Array Tmp).zip #[v] = #[(p, v)] by apply Array.ext <;> simp]
  rfl

theorem range_counts {g : Operand} {pt : Tmp} {assign body : Code} {Q : Exit → Act → World → Prop} {a : Act} {w0 w : World} {l : Led} {A : Option Addr} {cA : Nat} {Cv : Value} {bl : Nat}
    (hV : Valid l) (hg : a.eval g = .func (.func 121) #[] #[ptr bl]) (hB : G w0 w) (hbl : w0.heap.size ≤ bl) (hL : Blk w bl 38 #[.int .i64 l.lo, .int .i64 l.hi, .slice A l.gs.length cA, Cv]) (hG : Row3 w0 A l.gs)
    (I : List Cn → World → Prop) (Ix : Code → List Cn → World → Prop)
    (hI : ∀ pre W W', I pre W → Turn w.heap.size W W' → I pre W') (hIx : ∀ c pre W W', Ix c pre W → Turn w.heap.size W W' → Ix c pre W') (h0 : I [] w)
    (Ax : Cn → Act → World → Prop) (hAx : ∀ x a' W W', Ax x a' W → Turn w.heap.size W W' → Ax x a' W')
    (hassign : ∀ (lr : Nat) (pre : List Cn) (x : Cn) (W : World) (K : Act → World → Prop), w.heap.size + 5 ≤ W.heap.size → I pre W → (∀ a' W', Keep5 w0.heap.size bl w.heap.size W W' → I pre W' → Ax x a' W' → K a' W') →
      assign.wpIn (Fence.wide.inRound lr) 4 Try.prog (Exit.then K (fun _ _ _ => False)) { tmps := a.tmps.setIfInBounds pt (cntV x), defers := [] } W)
    (hbody : ∀ (lr : Nat) (pre : List Cn) (x : Cn) (a' : Act) (W : World), w.heap.size + 5 ≤ W.heap.size → pre ++ [x] <+: countsL l → I pre W → Ax x a' W → body.wpIn (Fence.wide.inRound lr) 4 Try.prog (keepPost w0.heap.size bl w.heap.size I Ix (pre ++ [x]) W) a' W)
    (hdone : ∀ (W : World), I (countsL l) W → W.heap[w.heap.size]? = some (.deferred (some [])) → Q .normal { a with defers := { target := .collected w.heap.size, args := #[] } :: a.defers } W)
    (hstop : ∀ (c : Code) (pre : List Cn) (W : World), pre <+: countsL l → Ix c pre W → W.heap[w.heap.size]? = some (.deferred (some [])) → c.wpIn Fence.wide 6 Try.prog Q { a with defers := { target := .collected w.heap.size, args := #[] } :: a.defers } W) :
    (Code.rangeFunc g #[pt] assign body).wpIn Fence.wide 6 Try.prog Q a w := by
  refine wpIn_rangeFunc ?_
  intro fn hfn
  rw [show Fence.wide.round = none from rfl]
  obtain ⟨rec, hrec⟩ : ∃ rec : LoopState → Option Code → Loop, rec = fun st pe => { state := st, pending := pe, fn, tmps := a.tmps, params := #[pt], assign, body, defers := w.heap.size } := ⟨_, rfl⟩
  obtain ⟨W1, hW1⟩ : ∃ W1, (w.alloc (.deferred (some []))).alloc (.loop (rec .ready none)) = W1 := ⟨_, rfl⟩
  have hs1 : W1.heap.size = w.heap.size + 2 := by rw [← hW1]; simp
  have hg1 : G w W1 := by rw [← hW1]; exact ((G.refl _).alloc _).alloc _
  have hL1 : W1.heap[w.heap.size + 1]? = some (.loop (rec .ready none)) := by
    rw [← hW1]; have := World.alloc_heap_new (w.alloc (.deferred (some []))) (.loop (rec .ready none)); rwa [World.size_alloc] at this
  have hK1 : W1.heap[w.heap.size]? = some (.deferred (some [])) := by
    rw [← hW1]; exact (Below.heap_alloc _ _ _ (by simp)).trans (World.alloc_heap_new w _)
  have hI1 : I [] W1 := hI _ _ _ h0 (Turn.of_grow hg1 (Nat.le_refl _))
  refine ⟨w.heap.size + 1, [{ target := .collected w.heap.size, args := #[] }], W1, { target := .fn (.func 121) #[ptr bl], args := #[.func (.yield (w.heap.size + 1)) #[] #[]] }, W1, 121,
    #[.func (.yield (w.heap.size + 1)) #[] #[]] ++ #[ptr bl], W1, ?_, ?_, ?_, ?_, fun _ => by omega, ?_⟩
  · rw [← hW1, hrec]; exact run_enterLoop_outer _ _ _ _ _
  · simp only [resolve, hg]
    simp [go_sem]
  · intro f' hf'; simp [Target.leads] at hf'; subst hf'; exact trivial
  · have eg := enters_of Try.func121 (by kernel_rfl) rfl
    simp [invoke, go_sem]
  · refine callsIn_wide.2 ?_
    refine (counts1_c (w := w0) (l := l) (A := A) (cA := cA) (Cv := Cv) (bl := bl) (lr := w.heap.size + 1) (W0 := W1)
      (J := fun pre W => I pre W ∧ w.heap.size + 2 ≤ W.heap.size ∧ W.heap[w.heap.size + 1]? = some (.loop (rec .ready none)) ∧ W.heap[w.heap.size]? = some (.deferred (some [])))
      (Jx := fun pre W => ∃ c, Ix c pre W ∧ W.heap[w.heap.size + 1]? = some (.loop (rec .done (some c))) ∧ W.heap[w.heap.size]? = some (.deferred (some [])))
      hV (by have := hL.lt; omega) hbl hG ?_ ?_ (hB.trans hg1) (hL.grow hg1) ⟨hI1, by omega, hL1, hK1⟩).mono ?_
    · -- ONE ROUND
      rintro pre x W hsz hpx ⟨hi, hsz0, hl, hk⟩
      rw [hs1] at hsz ⊢
      have hy := run_yield (P := Try.prog) (args := #[cntV x]) hl (by rw [hrec]; rfl)
      rw [hrec] at hy
      refine ⟨fn, _, assign, body, hy, roundIn_of_wpIn hfn (zip1 _ _ _ ▸ hassign _ pre x W _ (by omega) hi ?_)⟩
      clear hy
      intro a' Wa hkp hia hax
      have hla : Wa.heap[w.heap.size + 1]? = some (.loop (rec .ready none)) := (hkp.own _ (by omega) (by omega)).trans hl
      have hka : Wa.heap[w.heap.size]? = some (.deferred (some [])) := (hkp.own _ (by omega) (by omega)).trans hk
      have hlt : w.heap.size + 1 < Wa.heap.size := (Array.getElem?_eq_some_iff.1 hla).1
      refine ⟨_, run_beginRound hla (by rw [hrec]), ?_⟩
      generalize hWb : Wa.putObj (w.heap.size + 1) (.loop { rec .ready none with state := .busy }) = Wb
      have htb : Turn w.heap.size Wa Wb := by rw [← hWb]; exact Turn.putObj _ (by omega) (by omega) _
      have hlb : Wb.heap[w.heap.size + 1]? = some (.loop { rec .ready none with state := .busy }) := by rw [← hWb]; exact World.putObj_heap_same hlt
      have hkb : Wb.heap[w.heap.size]? = some (.deferred (some [])) := by rw [← hWb]; exact (World.putObj_heap_other (by omega)).trans hka
      have hob : ∀ k, w.heap.size + 2 ≤ k → Wb.heap[k]? = Wa.heap[k]? := fun k hk' => by rw [← hWb]; exact World.putObj_heap_other (by omega)
      have hzb : Wb.heap.size = Wa.heap.size := by rw [← hWb]; simp [World.putObj]
      refine wpIn_mono (hbody _ pre x a' Wb (by have := hkp.low.size; omega) hpx (hI _ _ _ hia htb) (hAx _ _ _ _ hax htb)) ?_
      have fin : ∀ (jump : Option Code) (W3 : World), Keep5 w0.heap.size bl w.heap.size Wb W3 → ∃ W4, W4 = W3.putObj (w.heap.size + 1) (.loop (rec (if jump.isNone then .ready else .done) jump)) ∧
          (Instr.endRound (w.heap.size + 1) jump).run Try.prog W3 = .ok (.bool jump.isNone) W4 ∧ W4.heap[w.heap.size + 1]? = some (.loop (rec (if jump.isNone then .ready else .done) jump)) ∧ W4.heap[w.heap.size]? = some (.deferred (some [])) ∧
          Turn w.heap.size W3 W4 ∧ w.heap.size + 2 ≤ W4.heap.size ∧ (∀ k, w.heap.size + 2 ≤ k → W4.heap[k]? = W3.heap[k]?) := fun jump W3 hk3 => by
        have hl3 : W3.heap[w.heap.size + 1]? = some (.loop { rec .ready none with state := .busy }) := (hk3.own _ (by omega) (by omega)).trans hlb
        have hk4 : W3.heap[w.heap.size]? = some (.deferred (some [])) := (hk3.own _ (by omega) (by omega)).trans hkb
        have := run_endRound (P := Try.prog) jump hl3
        have hlt3 : w.heap.size + 1 < W3.heap.size := (Array.getElem?_eq_some_iff.1 hl3).1
        rw [hrec] at this ⊢
        exact ⟨_, rfl, this, World.putObj_heap_same hlt3, (World.putObj_heap_other (by omega)).trans hk4, Turn.putObj _ (by omega) (by omega) _, by simp [World.putObj]; omega, fun k hk' => World.putObj_heap_other (by omega)⟩
      have hlow : ∀ {X Y : World}, Turn w.heap.size X Y → Below w0.heap.size X Y := fun h => h.below hB.size
      rintro e a3 W3 hp
      cases e with
      | normal =>
        obtain ⟨hk3, hi3⟩ := hp
        obtain ⟨W4, -, hr, hl4, hk4, ht4, hs4, ho4⟩ := fin none W3 hk3
        refine ⟨_, _, hr, .inl ⟨rfl, ⟨hI _ _ _ hi3 ht4, hs4, hl4, hk4⟩, ?_⟩⟩
        have hlb' := hL.lt
        refine ⟨?_, ?_, ?_⟩
        · exact Below.trans hkp.low (Below.trans (hlow htb) (Below.trans hk3.low (hlow ht4)))
        · have e1 := htb.block bl (by omega) (by omega)
          have e2 := ht4.block bl (by have := hk3.low.size; omega) (by omega)
          exact e2.trans (hk3.led.trans (e1.trans hkp.led))
        · intro k h1 h2
          exact (ho4 k (by omega)).trans ((hk3.own k (by omega) (by omega)).trans ((hob k (by omega)).trans (hkp.own k (by omega) (by omega))))
      | ret =>
        obtain ⟨hk3, hi3⟩ := hp
        obtain ⟨W4, -, hr, hl4, hk4, ht4, hs4, ho4⟩ := fin (some .ret) W3 hk3
        exact ⟨_, _, hr, .inr ⟨rfl, .ret, hIx _ _ _ _ hi3 ht4, hl4, hk4⟩⟩
      | exit id => exact hp.elim
      | goto t => exact hp.elim
      | panic ch => exact hp.elim
      | outgrown => exact hp.elim
    · rintro pre Wa Wb ⟨hi, hsz0, hl, hk⟩ hst
      rw [hs1] at hst
      exact ⟨hI _ _ _ hi (Turn.of_step hst (by omega)), by have := hst.size; omega, (hst.block _ (by omega) (by omega)).trans hl, (hst.block _ (by omega) (by omega)).trans hk⟩
    · -- BEHIND THE ITERATOR
      rintro e W2 ⟨⟨v, rfl⟩, (⟨hi, hsz0, hl, hk⟩ | ⟨pre, hpre, c, hi, hl, hk⟩)⟩
      · exact ⟨none, _, by have := run_endLoop (P := Try.prog) hl (by rw [hrec]; simp); rw [hrec] at this; exact this, hdone _ (hI _ _ _ hi (Turn.putObj _ (by omega) (by omega) _)) ((World.putObj_heap_other (by omega)).trans hk)⟩
      · exact ⟨some c, _, by have := run_endLoop (P := Try.prog) hl (by rw [hrec]; simp); rw [hrec] at this; exact this, hstop c pre _ hpre (hIx _ _ _ _ hi (Turn.putObj _ (by have := (Array.getElem?_eq_some_iff.1 hl).1; omega) (by omega) _)) ((World.putObj_heap_other (by omega)).trans hk)⟩
end Go.Proofs.Ytogdhkecpjndlaa.C

/- Whether there is a truth without some claims. -/
namespace Go.Proofs.Ytogdhkecpjndlaa.C
open Go.RowKit Go.Shelf
attribute [local go_sem] Oper.semAt_some
set_option maxRecDepth 100000

theorem counts_c (l : Led) (A C : Option Addr) (cA cC : Nat) (w : World) :
    Calls Try.prog 108 #[ledV l A C cA cC] w fun e w' => e = .returned (.func (.func 121) #[] #[ptr w.heap.size]) ∧ G w w' ∧ Blk w' w.heap.size 38 #[.int .i64 l.lo, .int .i64 l.hi, .slice A l.gs.length cA, .slice C l.cs.length cC] ∧ w'.heap.size = w.heap.size + 1 := by
  have hmf : ∀ fn first cap w, (Instr.makeFunc fn first cap).run Try.prog w = .ok (.func fn first cap) w := fun _ _ _ _ => rfl
  go_enter Try.func108, Try.ntmps108
  go_wp2
  go_ret
  exact ⟨rfl, (G.refl _).alloc _, Blk.new _ _ _, by simp⟩

def anyR (l : Led) (out : List Int) : Bool := (countsL l).any fun c => rightBut l c out 0 l.cs

set_option maxHeartbeats 4000000 in
theorem possible_c (l : Led) (A C O : Option Addr) (cA cC cO : Nat) (out : List Int) (w : World) (hV : Valid l) (hL : LedR w l A C) (hO : RowI w O out) (ho : out.length ≤ 100) :
    Calls Try.prog 89 #[ledV l A C cA cC, .slice O out.length cO] w fun e w' => e = .returned (.bool (anyR l out)) ∧ G w w' := by
  refine (callsIn_wide (n := 6)).1 ?_
  refine callsIn_of_wp_marks Try.func89 rfl trivial ?_ rfl
  simp only [Try.ntmps89, List.size_toArray, List.length_cons, List.length_nil, Nat.reduceAdd, Nat.reduceSub, Array.replicate_succ, Array.replicate_zero, List.push_toArray, List.append_toArray, List.nil_append, List.cons_append]
  have n2 : Blk (((w.alloc (.cells #[.int .i64 l.lo, .int .i64 l.hi, .slice A l.gs.length cA, .slice C l.cs.length cC] 38)).alloc (.cells #[.slice O out.length cO] 30)).alloc (.cells #[.bool false] 4)) (w.heap.size + 1 + 1) 4 #[.bool false] := Blk.new' (by simp)
  have n1 : Blk (((w.alloc (.cells #[.int .i64 l.lo, .int .i64 l.hi, .slice A l.gs.length cA, .slice C l.cs.length cC] 38)).alloc (.cells #[.slice O out.length cO] 30)).alloc (.cells #[.bool false] 4)) (w.heap.size + 1) 30 #[.slice O out.length cO] := (Blk.new' (by simp)).grow ((G.refl _).alloc _)
  have n0 : Blk (((w.alloc (.cells #[.int .i64 l.lo, .int .i64 l.hi, .slice A l.gs.length cA, .slice C l.cs.length cC] 38)).alloc (.cells #[.slice O out.length cO] 30)).alloc (.cells #[.bool false] 4)) w.heap.size 38 #[.int .i64 l.lo, .int .i64 l.hi, .slice A l.gs.length cA, .slice C l.cs.length cC] := ((Blk.new' rfl).grow ((G.refl _).alloc _)).grow ((G.refl _).alloc _)
  have nB : G w (((w.alloc (.cells #[.int .i64 l.lo, .int .i64 l.hi, .slice A l.gs.length cA, .slice C l.cs.length cC] 38)).alloc (.cells #[.slice O out.length cO] 30)).alloc (.cells #[.bool false] 4)) := (((G.refl _).alloc _).alloc _).alloc _
  have nz : (((w.alloc (.cells #[.int .i64 l.lo, .int .i64 l.hi, .slice A l.gs.length cA, .slice C l.cs.length cC] 38)).alloc (.cells #[.slice O out.length cO] 30)).alloc (.cells #[.bool false] 4)).heap.size = w.heap.size + 3 := by simp
  gi_wp2_with (refine ⟨trivial, ?_⟩; gi_at_call 108; refine (callsIn_wide.2 (counts_c l A C cA cC _)).mono ?_; rintro e w1 ⟨rfl, mB, m3, hz1⟩)
  generalize ((w.alloc _).alloc _).alloc _ = W0 at *
  rw [nz] at m3 hz1
  refine range_counts hV rfl (nB.trans mB) (by omega : w.heap.size ≤ w.heap.size + 3) m3 hL.g
    (fun pre W => Blk W w.heap.size 38 #[.int .i64 l.lo, .int .i64 l.hi, .slice A l.gs.length cA, .slice C l.cs.length cC] ∧ Blk W (w.heap.size + 1) 30 #[.slice O out.length cO] ∧ Blk W (w.heap.size + 1 + 1) 4 #[.bool false] ∧ G w W ∧ ∀ c ∈ pre, rightBut l c out 0 l.cs = false)
    (fun c pre W => c = .ret ∧ Blk W (w.heap.size + 1 + 1) 4 #[.bool true] ∧ G w W ∧ ∃ c ∈ pre, rightBut l c out 0 l.cs = true)
    (fun pre Wa Wb h ht => ⟨ht.blk (by omega) h.1, ht.blk (by omega) h.2.1, ht.blk (by omega) h.2.2.1, Below.trans h.2.2.2.1 (ht.below (by omega)), h.2.2.2.2⟩)
    (fun c pre Wa Wb h ht => ⟨h.1, ht.blk (by omega) h.2.1, Below.trans h.2.2.1 (ht.below (by omega)), h.2.2.2⟩)
    ⟨n0.grow mB, n1.grow mB, n2.grow mB, nB.trans mB, by simp⟩
    (fun x a' W => ∃ bx, w.heap.size + 9 ≤ bx ∧ Blk W bx 128 #[.int .i64 x.r, .int .i64 (x.b 0), .int .i64 (x.b 1), .int .i64 (x.b 2), .int .i64 (x.b 3)] ∧ a' = { tmps := #[ledV l A C cA cC, .slice O out.length cO, ptr w.heap.size, ptr (w.heap.size + 1), ptr (w.heap.size + 1 + 1), ptr bx, ledV l A C cA cC, .func (.func 121) #[] #[ptr (w.heap.size + 3)], cntV x, undef, undef, undef, undef], defers := [] })
    ?_ ?assign ?body ?done ?stop
  · rintro x a' Wa Wb ⟨bx, h1, h2, h3⟩ ht
    exact ⟨bx, h1, (ht.block bx h2.lt (by omega)).trans h2, h3⟩
  case assign =>
    rintro lr pre x W K hs ⟨i0, i1, i2, i3, i4⟩ hK
    simp only [List.setIfInBounds_toArray, List.set_cons_succ, List.set_cons_zero]
    gi_wp2
    exact hK _ _ (Keep5.of_grow ((G.refl W).alloc _) (by omega) (by omega) (by omega)) ⟨i0.grow ((G.refl _).alloc _), i1.grow ((G.refl _).alloc _), i2.grow ((G.refl _).alloc _), i3.alloc _, i4⟩ ⟨W.heap.size, by omega, Blk.new _ _ _, rfl⟩
  case body =>
    rintro lr pre x a' W hs hpx ⟨i0, i1, i2, i3, i4⟩ ⟨bx, hbx, hx, rfl⟩
    have c2 : W.cell? ⟨w.heap.size + 1 + 1, 0, none⟩ = some (.bool false) := i2.cell 0 rfl
    have f2 : W.frozen? ⟨w.heap.size + 1 + 1, 0, none⟩ = false := i2.frozen 0
    have c1 : W.cell? ⟨w.heap.size + 1, 0, none⟩ = some (.slice O out.length cO) := i1.cell 0 rfl
    have c00 : W.cell? ⟨w.heap.size, 0, none⟩ = some (.int .i64 l.lo) := i0.cell 0 rfl
    have c01 : W.cell? ⟨w.heap.size, 1, none⟩ = some (.int .i64 l.hi) := i0.cell 1 rfl
    have c02 : W.cell? ⟨w.heap.size, 2, none⟩ = some (.slice A l.gs.length cA) := i0.cell 2 rfl
    have c03 : W.cell? ⟨w.heap.size, 3, none⟩ = some (.slice C l.cs.length cC) := i0.cell 3 rfl
    have x0 : W.cell? ⟨bx, 0, none⟩ = some (.int .i64 x.r) := hx.cell 0 rfl
    have x1 : W.cell? ⟨bx, 1, none⟩ = some (.int .i64 (x.b 0)) := hx.cell 1 rfl
    have x2 : W.cell? ⟨bx, 2, none⟩ = some (.int .i64 (x.b 1)) := hx.cell 2 rfl
    have x3 : W.cell? ⟨bx, 3, none⟩ = some (.int .i64 (x.b 2)) := hx.cell 3 rfl
    have x4 : W.cell? ⟨bx, 4, none⟩ = some (.int .i64 (x.b 3)) := hx.cell 4 rfl
    have hR := right_c l A C O cA cC cO x out W hV (cntOk_of hV ((countsL_mem l x).1 (hpx.subset (by simp)))) (hL.grow i3) (hO.grow i3) ho
    cases hr : rightBut l x out 0 l.cs
    · rw [hr] at hR
      have HR := Lib.hid hr
      clear hr
      gi_wp2_with (refine ⟨trivial, ?_⟩; gi_at_call 95; refine (CallsIn.inRound lr (callsIn_wide.2 hR)).mono ?_; rintro e w5 ⟨rfl, hb5⟩)
      exact ⟨Keep5.of_grow hb5 (by omega) (by omega) (by omega), i0.grow hb5, i1.grow hb5, i2.grow hb5, i3.trans hb5, fun c hc => by
        rw [List.mem_append, List.mem_singleton] at hc
        rcases hc with hc | rfl
        · exact i4 c hc
        · exact HR.out⟩
    · rw [hr] at hR
      have HR := Lib.hid hr
      clear hr
      gi_wp2_with (refine ⟨trivial, ?_⟩; gi_at_call 95; refine (CallsIn.inRound lr (callsIn_wide.2 hR)).mono ?_; rintro e w5 ⟨rfl, hb5⟩; have c25 := hb5.cell c2; have f25 := hb5.frozen i2.lt f2)
      exact ⟨(Keep5.of_grow hb5 (by omega) (by omega) (by omega)).trans (Keep5.setCell _ (by simp; omega) (by simp) (by simp; omega) _), rfl, (i2.grow hb5).set 0 _, (i3.trans hb5).setCell (by simp; omega) _, x, by simp, HR.out⟩
  case done =>
    rintro W ⟨i0, i1, i2, i3, i4⟩ hK
    have c2 : W.cell? ⟨w.heap.size + 1 + 1, 0, none⟩ = some (.bool false) := i2.cell 0 rfl
    have f2 : W.frozen? ⟨w.heap.size + 1 + 1, 0, none⟩ = false := i2.frozen 0
    have HA := Lib.hid (show anyR l out = false by unfold anyR; rw [List.any_eq_false]; intro c hc; rw [i4 c hc]; simp)
    gi_wp2
    have hK2 : (W.setCell ⟨w.heap.size + 1 + 1, 0, none⟩ (.bool false)).heap[w1.heap.size]? = some (.deferred (some [])) := (Below.heap_setCell W _ _ _ (by simp; omega)).trans hK
    have hT := (Turn.putObj (n1 := w1.heap.size) (W.setCell ⟨w.heap.size + 1 + 1, 0, none⟩ (.bool false)) (by have := (Array.getElem?_eq_some_iff.1 hK2).1; omega) (by omega : w1.heap.size ≤ w1.heap.size ∧ w1.heap.size < w1.heap.size + 5) (.deferred none))
    have hc := (hT.blk (by omega) (i2.set 0 (.bool false))).cell 0 (v := .bool false) rfl
    refine ⟨by simp, .inl ⟨_, _, rfl, run_takeDeferred hK2, ?_⟩⟩
    refine ⟨_, by simp [results, Try.results89, go_sem, hc], ret_b HA.out.symm, Below.trans (i3.setCell (by simp; omega) _) (hT.below (by omega))⟩
  case stop =>
    rintro c pre W hpre ⟨rfl, i2, i3, i4⟩ hK
    have c2 : W.cell? ⟨w.heap.size + 1 + 1, 0, none⟩ = some (.bool true) := i2.cell 0 rfl
    obtain ⟨c, hc, hr⟩ := i4
    have HA := Lib.hid (show anyR l out = true by unfold anyR; rw [List.any_eq_true]; exact ⟨c, hpre.subset hc, hr⟩)
    gi_wp2
    have hT := (Turn.putObj (n1 := w1.heap.size) W (by have := (Array.getElem?_eq_some_iff.1 hK).1; omega) (by omega : w1.heap.size ≤ w1.heap.size ∧ w1.heap.size < w1.heap.size + 5) (.deferred none))
    have hc := (hT.blk (by omega) i2).cell 0 (v := .bool true) rfl
    refine ⟨by simp, .inl ⟨_, _, rfl, run_takeDeferred hK, ?_⟩⟩
    refine ⟨_, by simp [results, Try.results89, go_sem, hc], ret_b HA.out.symm, Below.trans i3 (hT.below (by omega))⟩
end Go.Proofs.Ytogdhkecpjndlaa.C

/- The map from spots (a grower, a number of bundles) to how many truths have them: what it reads as; a look-up; an entry and the store into it. -/
namespace Go.Proofs.Ytogdhkecpjndlaa.C
open Go.RowKit Go.WideMaps Go.Maps Go.WideElems Go.ChangeMaps
set_option maxRecDepth 100000

theorem und119 : Try.prog.underlying 119 = some (.map 123 3) := by kernel_rfl
theorem und3 : Try.prog.underlying 3 = some (.int .i64) := by kernel_rfl
theorem und123 : Try.prog.underlying 123 = some (.struct #[⟨"grower", 3, 0, false, "", "anil/grower", 0⟩, ⟨"bundles", 3, 1, false, "", "anil/grower", 8⟩]) := by kernel_rfl
theorem laid : laidOutB Try.prog = true := by kernel_rfl
theorem row123 : (123 : TypeId) < Try.prog.types.size := of_decide_eq_true (by kernel_rfl)
theorem deep123 : Try.prog.keyTypeAt 2 123 = true := by kernel_rfl
theorem wide123 : (match Try.prog.underlying 123 with | some (.array _ _) | some (.struct _) => true | _ => false) = true := by rw [und123]
theorem keyT123 : Try.prog.keyType 123 = true := by kernel_rfl
theorem cellsOf123 : Try.prog.cellsOf 123 = 2 := by kernel_rfl
theorem cellsOf3 : Try.prog.cellsOf 3 = 1 := by kernel_rfl
theorem keyLaw : KeyLaw Try.prog 123 := deep_law_laid laid (m := 2) (by omega) row123 deep123 wide123
theorem keyed : Keyed Try.prog 123 := Keyed.of_law keyLaw
theorem zero3 (w : World) : (zeroValue 3).run Try.prog w = .ok (.int .i64 0) w := by kernel_rfl

abbrev spot (g v : Int) : Value := .agg #[.int .i64 g, .int .i64 v]
def Fits (x : Int) : Prop := (Lit.int .i64 x).wf = true
def spotKey (g v : Int) : Lit := .string (keyBytes [.int .i64 g, .int .i64 v])
theorem size_succ : ∃ n, Try.prog.types.size = n + 2 := ⟨Try.prog.types.size - 2, by have h : (123 : Nat) < Try.prog.types.size := row123; omega⟩
theorem lits_struct (d : Nat) (x y : Value) : Try.prog.keyLits (d + 2) 123 [x, y] = ((Try.prog.keyLits (d + 1) 3 [x]).bind fun a => (Try.prog.keyLits (d + 1) 3 [y]).bind fun b => some (a ++ b)) := by
  conv => lhs; unfold Program.keyLits
  simp only [und123, cellsOf123]
  cases h1 : Try.prog.keyLits (d + 1) 3 [x] <;> cases h2 : Try.prog.keyLits (d + 1) 3 [y] <;> simp [cellsOf3, h1, h2]
theorem lits_int (d : Nat) (x : Int) (hx : Fits x) : Try.prog.keyLits (d + 1) 3 [.int .i64 x] = some [.int .i64 x] := by
  unfold Fits at hx
  simp [Program.keyLits, und3, hx]
theorem key_spot {g v : Int} (hg : Fits g) (hv : Fits v) : keyOf Try.prog 123 (spot g v) = some (spotKey g v) := by
  obtain ⟨n, hn⟩ := size_succ
  have hf : (spot g v).formed Try.prog 123 = true := by simp [Value.formed, und123, cellsOf123]
  unfold keyOf
  simp only [und123, keyT123, hf, Bool.and_self, if_true, Value.cells]
  rw [hn, lits_struct, lits_int _ _ hg, lits_int _ _ hv]
  rfl
theorem spot_inv {kv : Value} {kl : Lit} (h : keyOf Try.prog 123 kv = some kl) : ∃ g v, kv = spot g v ∧ Fits g ∧ Fits v ∧ kl = spotKey g v := by
  obtain ⟨n, hn⟩ := size_succ
  unfold keyOf at h
  simp only [und123, keyT123, Bool.true_and] at h
  split at h
  · rename_i hf
    cases kv <;> simp [Value.formed, und123, cellsOf123] at hf
    rename_i cs
    simp only [Value.cells, Option.map_eq_some_iff] at h
    obtain ⟨ls, hl, rfl⟩ := h
    obtain ⟨x, y, hcs⟩ : ∃ x y, cs = #[x, y] := by
      match cs, hf with
      | ⟨[x, y]⟩, _ => exact ⟨x, y, rfl⟩
    subst hcs
    rw [hn, lits_struct] at hl
    simp only [Option.bind_eq_some_iff, Option.some.injEq] at hl
    obtain ⟨a, ha, b, hb, rfl⟩ := hl
    obtain ⟨g, hg, rfl⟩ := keyLits_int' und3 ha
    obtain ⟨v, hv, rfl⟩ := keyLits_int' und3 hb
    cases hg
    cases hv
    have ok : ∀ z, Try.prog.keyLits (n + 1) 3 [.int .i64 z] = some [.int .i64 z] → Fits z := fun z hz => by
      unfold Fits
      simp only [Program.keyLits, und3] at hz
      simpa using hz
    exact ⟨g, v, rfl, ok _ ha, ok _ hb, rfl⟩
  · simp at h
theorem spotKey_inj {g v g' v' : Int} (hg : Fits g) (hv : Fits v) (hg' : Fits g') (hv' : Fits v') (h : spotKey g v = spotKey g' v') : g = g' ∧ v = v' := by
  have h1 := key_spot hg hv
  have h2 := key_spot hg' hv'
  rw [h] at h1
  have := keyed.inj h1 h2
  simpa using this
theorem fits_small {x : Int} (h : -1000000 ≤ x ∧ x ≤ 1000000) : Fits x := by unfold Fits; simp [Lit.wf, IntKind.min, IntKind.max, IntKind.signed, IntKind.bits]; omega


/-- Block b is a map of at most n spots, of growers below ng; f says what it holds. -/
def SpotM (w : World) (b n : Nat) (f : Int → Int → Int) (ng : Nat) : Prop :=
  ∃ D : DataW Unit, w.ownsMap Try.prog 123 (plainElem Try.prog 3) b n D ∧ (∀ g v, Fits g → Fits v → D.atKey (spotKey g v) (.lit (.int .i64 0)) = .lit (.int .i64 (f g v))) ∧
    (∀ kl, Maps.has D kl = true → ∃ g v, kl = spotKey g v ∧ 0 ≤ g ∧ g < ng ∧ Fits g ∧ Fits v)
def upd (f : Int → Int → Int) (g v c : Int) : Int → Int → Int := fun g' v' => if g' = g ∧ v' = v then c else f g' v'

theorem SpotM.made (w : World) (ng : Nat) : SpotM (w.alloc (.map #[] 0)) w.heap.size 0 (fun _ _ => 0) ng :=
  ⟨_, World.ownsMap_made w _ _ _, fun _ _ _ _ => rfl, fun kl h => by simp [Maps.has] at h⟩
theorem SpotM.lt {w : World} {b n ng : Nat} {f : Int → Int → Int} (h : SpotM w b n f ng) : b < w.heap.size := by obtain ⟨D, h, -⟩ := h; exact h.lt
theorem SpotM.block {w w' : World} {b n ng : Nat} {f : Int → Int → Int} (h : SpotM w b n f ng) (hb : w'.heap[b]? = w.heap[b]?) : SpotM w' b n f ng := by
  obtain ⟨D, ⟨es, clock, h1, h2⟩, h3⟩ := h
  exact ⟨D, ⟨es, clock, hb.trans h1, h2⟩, h3⟩
theorem SpotM.grow {w w' : World} {b n ng : Nat} {f : Int → Int → Int} (h : SpotM w b n f ng) (hg : G w w') : SpotM w' b n f ng := h.block (hg.block _ h.lt)
theorem SpotM.mono {w : World} {b n m ng : Nat} {f : Int → Int → Int} (h : SpotM w b n f ng) (hm : n ≤ m) : SpotM w b m f ng := by
  obtain ⟨D, h1, h3⟩ := h
  exact ⟨D, h1.mono hm, h3⟩
theorem SpotM.look {w : World} {b n ng : Nat} {f : Int → Int → Int} (h : SpotM w b n f ng) {g v : Int} (hg : Fits g) (hv : Fits v) :
    (Instr.lookup 119 (.map (some b)) (spot g v) false).run Try.prog w = .ok (.int .i64 (f g v)) w := by
  obtain ⟨D, h1, h2, -⟩ := h
  obtain ⟨c, hrun, hat, -⟩ := h1.lookup_int keyed und119 und3 (zero3 w) (key_spot hg hv)
  rw [h2 g v hg hv] at hat
  injection hat with hat
  injection hat with _ hat
  rw [hat]
  exact hrun
theorem SpotM.put {w : World} {b n ng : Nat} {f : Int → Int → Int} (h : SpotM w b n f ng) (hn : n < 100000000) {g v c : Int} (hg0 : 0 ≤ g) (hg1 : g < ng) (hg : Fits g) (hv : Fits v) (hc : Fits c) :
    ∃ v0 st w1, (Instr.mapEntry 119 (.map (some b)) (spot g v)).run Try.prog w = .ok (.tuple #[v0, .int .i64 st]) w1 ∧ ∃ w2, (Instr.entryStore 119 (.map (some b)) (.int .i64 st) (.int .i64 c)).run Try.prog w1 = .ok () w2 ∧
      SpotM w2 b (n + 1) (upd f g v c) ng ∧ w.grownBy w2 (some b) ∧ SpotM w1 b (n + 1) f ng ∧ w.grownBy w1 (some b) := by
  have hS := h
  obtain ⟨D, h1, h2, h3⟩ := h
  have hm := h1.isMap
  have h1c := h1
  obtain ⟨w', hup, ho, hgr⟩ := h1.update (val := .int .i64 c) keyed und119 (by simp only [maxLen]; omega) (key_spot hg hv) (plainElem_int und3 hc)
  obtain ⟨es, clock, hb, F, hs, hD⟩ := h1
  obtain ⟨v0, st, es1, clock1, hen, -, hst⟩ := entry_then_store keyLaw und119 (z := .int .i64 0) (fun u => zero3 u) hb F (key_spot hg hv)
  obtain ⟨es', clock', hs1, hs2⟩ := hst (setBlock w b (.map es1 clock1)) (.int .i64 c) (heap_setBlock_same hb _)
  have hX : SpotM (setBlock w b (.map es1 clock1)) b (n + 1) f ng := by
    rcases keyLaw.find w (key_spot hg hv) es.toList F.keys with ⟨h1f, h2f⟩ | ⟨j, e0, h1f, h2f, h3f⟩
    · have h0 : f g v = 0 := by
        rcases Maps.fit_look false keyed und119 (zero3 w) hb F (key_spot hg hv) with ⟨_, _, hat⟩ | ⟨e0, y, he0, hk0, _⟩
        · have := h2 g v hg hv
          rw [hD, hat (.lit (.int .i64 0))] at this
          injection this with this
          injection this with _ this
          exact this.symm
        · exact absurd hk0 (h2f e0 he0)
      obtain ⟨wu, hup0, ho0, _⟩ := h1c.update (val := .int .i64 0) keyed und119 (by simp only [maxLen]; omega) (key_spot hg hv) (plainElem_int und3 (by decide))
      have e1 : (Instr.mapEntry 119 (.map (some b)) (spot g v)).run Try.prog w = .ok (.tuple #[.int .i64 0, goInt clock]) (setBlock w b (.map (es.push ⟨spot g v, .int .i64 0, clock⟩) (clock + 1))) := by
        simp [Instr.mapEntry, run_underlying und119, MapKept.run_getObj_map hb, keyLaw.check w false (key_spot hg hv), h1f, zero3, MapKept.run_setObj_map _ hb, Result.andThen, setBlock]
      have e2 : (Instr.mapUpdate 119 (.map (some b)) (spot g v) (.int .i64 0)).run Try.prog w = .ok () (setBlock w b (.map (es.push ⟨spot g v, .int .i64 0, clock⟩) (clock + 1))) := by
        simp [Instr.mapUpdate, run_underlying und119, MapKept.run_getObj_map hb, keyLaw.check w false (key_spot hg hv), h1f, MapKept.run_setObj_map _ hb, Result.andThen, setBlock]
      rw [hen] at e1
      rw [hup0] at e2
      injection e1 with _ e1
      injection e2 with _ e2
      rw [e1, ← e2]
      refine ⟨_, ho0, fun g' v' hg' hv' => ?_, fun kl hkl => ?_⟩
      · by_cases he : g' = g ∧ v' = v
        · rw [he.1, he.2, h0]
          exact Maps.atKey_put_same hm (keyed.key (key_spot hg hv)) _ _
        · rw [Maps.atKey_put_other (fun e => he (by have := spotKey_inj hg' hv' hg hv e; exact this))]
          exact h2 g' v' hg' hv'
      · by_cases he : kl = spotKey g v
        · exact ⟨g, v, he, hg0, hg1, hg, hv⟩
        · rw [Maps.has_put_other he] at hkl
          exact h3 kl hkl
    · have hj : es[j]? = some e0 := by simpa using h2f
      have hsame : es.modify j (fun e => { e with key := spot g v }) = es := by
        apply Array.ext'
        rw [Array.toList_modify, modify_eq_set _ _ _ _ h2f]
        have : ({ e0 with key := spot g v } : MapEntry) = e0 := by rw [← h3f]
        rw [this]
        exact set_self _ _ _ h2f
      have e1 : (Instr.mapEntry 119 (.map (some b)) (spot g v)).run Try.prog w = .ok (.tuple #[e0.val, goInt e0.born]) (setBlock w b (.map es clock)) := by
        simp [Instr.mapEntry, run_underlying und119, MapKept.run_getObj_map hb, keyLaw.check w false (key_spot hg hv), h1f, hj, h3f, keyLaw.stays w (key_spot hg hv), hsame, MapKept.run_setObj_map _ hb, Result.andThen, setBlock]
      rw [hen] at e1
      injection e1 with _ e1
      rw [e1]
      exact (hS.block (w' := setBlock w b (.map es clock)) ((heap_setBlock_same hb _).trans hb.symm)).mono (by omega)
  have hXg : w.grownBy (setBlock w b (.map es1 clock1)) (some b) := ⟨rfl, rfl, rfl, by simp [setBlock], fun i _ hi => heap_setBlock_other hb _ (fun e => hi (by rw [e]))⟩
  rw [hs2] at hup
  have hw : setBlock w b (.map es' clock') = w' := by injection hup
  refine ⟨v0, st, _, hen, _, hs1, ⟨D.put (spotKey g v) (.lit (.int .i64 c)), ?_, ?_, ?_⟩, ?_, hX, hXg⟩
  · rw [← hw] at ho
    have e : setBlock (setBlock w b (.map es1 clock1)) b (.map es' clock') = setBlock w b (.map es' clock') := by
      unfold setBlock
      simp
    rw [e]
    exact ho
  · intro g' v' hg' hv'
    unfold upd
    split
    · rename_i he
      rw [he.1, he.2]
      exact Maps.atKey_put_same hm (keyed.key (key_spot hg hv)) _ _
    · rename_i he
      rw [Maps.atKey_put_other (fun e => he (by have := spotKey_inj hg' hv' hg hv e; exact this))]
      exact h2 g' v' hg' hv'
  · intro kl hkl
    by_cases he : kl = spotKey g v
    · exact ⟨g, v, he, hg0, hg1, hg, hv⟩
    · rw [Maps.has_put_other he] at hkl
      exact h3 kl hkl
  · rw [← hw] at hgr
    have e : setBlock (setBlock w b (.map es1 clock1)) b (.map es' clock') = setBlock w b (.map es' clock') := by
      unfold setBlock
      simp
    rw [e]
    exact hgr

end Go.Proofs.Ytogdhkecpjndlaa.C

/- A region without calls that draws its order, in a round's frame: walked as everywhere. -/
namespace Go.Proofs.Ytogdhkecpjndlaa.C
open Go

theorem upon_in {n lr : Nat} {P : Program} {o : Oper} {a : Act} {K K' : Act → World → Prop} {Q : Exit → Act → World → Prop} (hK : ∀ a w, K a w → K' a w)
    (r : Result Next) (h : o.upon P a K Q r) : o.uponIn (Fence.wide.inRound lr) n P a K' Q r := by
  cases r with
  | ok x w' =>
    cases x <;> simp only [Oper.upon, Oper.uponIn] at h ⊢ <;>
      first
        | exact hK _ _ h
        | exact ⟨fun h => by simp [Fence.wide] at h, CallsIn.inRound lr (CallsIn.mono (callsIn_wide.2 h) (fun e w'' he => by cases e <;> first | exact hK _ _ he | exact he))⟩
        | exact ⟨fun h => by simp [Fence.wide] at h, fun c cs _ => let ⟨v, w'', r, s⟩ := h c cs; ⟨v, w'', hK _ _ r, stepsIn_wide.2 s⟩⟩
  | halt x w' => cases x <;> simp only [Oper.upon, Oper.uponIn] at h ⊢ <;> exact h

theorem op_in {n lr : Nat} {P : Program} {ops : Array Oper} {Q : Exit → Act → World → Prop} (hQ : ¬ LetsOut Q) (hd : ∀ (i : Nat) (o : Oper) c, ops[i]? = some o → o.op ≠ .defer c) {K K' : Act → World → Prop} (hK : ∀ a w, K a w → K' a w)
    (i : Nat) (a : Act) (w : World) (h : wpOp P ops Q i K a w) : wpOpIn (Fence.wide.inRound lr) n P ops Q i K' a w := by
  unfold wpOp at h
  unfold wpOpIn
  cases ho : ops[i]? with
  | none => rw [ho] at h; exact hK _ _ h
  | some o =>
    rw [ho] at h
    simp only at h ⊢
    split at h
    · rename_i hw
      rw [if_pos hw]
      rcases h with h | ⟨_, h⟩
      · refine ⟨fun _ _ => trivial, ?_⟩
        rw [Oper.semAt_plain _ _ _ (hd i o · ho)]
        exact upon_in hK _ h
      · exact absurd h hQ
    · rename_i hw
      rw [if_neg hw]
      exact ⟨fun _ _ => trivial, hK _ _ h⟩

theorem any_in {n lr : Nat} {P : Program} {md : Region.Mode} {ops : Array Oper} {Q : Exit → Act → World → Prop} (hQ : ¬ LetsOut Q) (hd : ∀ (i : Nat) (o : Oper) c, ops[i]? = some o → o.op ≠ .defer c) :
    ∀ (fuel : Nat) (listed : Array Bool) (a : Act) (w : World), wpAny P md ops Q fuel listed a w → wpAnyIn (Fence.wide.inRound lr) n P md ops Q fuel listed a w
  | 0, _, _, _, h => h
  | fuel + 1, listed, a, w, h => ⟨h.1, fun i hi => op_in hQ hd (fun a w => any_in hQ hd fuel _ a w) i a w (h.2 i hi)⟩

def noDefer (ops : List Oper) : Bool := ops.all fun o => match o.op with | .defer _ => false | _ => true
theorem noDefer_spec {l : List Oper} (h : noDefer l = true) (i : Nat) (o : Oper) (c : Call) (ho : l.toArray[i]? = some o) : o.op ≠ .defer c := by
  intro e
  have := List.all_eq_true.1 h o (List.mem_of_getElem? (by simpa using ho))
  rw [e] at this
  exact absurd this (by simp)

theorem wpIn_still_tail {lr m id : Nat} {P : Program} {Q : Exit → Act → World → Prop} {a : Act} {w : World} {l : List Oper} (hQ : ¬ LetsOut Q) (n : Nat) (hm : P.follows .mixedOrders = true) (hB : Region.lexTailB .any l.toArray n = true) (hd : noDefer l = true)
    (h : wpStill P l.toArray { w with drawn := w.drawn + 1 } (fun a' => wpList P l.toArray Q (l.drop n) a' { w with drawn := w.drawn + 1 }) (l.take n) a) : (Code.region id l.toArray true).wpIn (Fence.wide.inRound lr) m P Q a w := by
  simp only [Region.lexTailB, Bool.and_eq_true, decide_eq_true_eq] at hB
  obtain ⟨⟨⟨⟨hsel, hn⟩, hs⟩, hc⟩, hlex⟩ := hB
  have hn' : n < l.length := by simpa using hn
  have htl : (l.take n).length = n := by simp; omega
  have hdl : (l.drop n).length = l.toArray.size - n := by simp
  have inv0 : HeadInv .any l.toArray n (Array.replicate l.toArray.size false) :=
    ⟨by simp, fun j oj _ hl => (by rw [getD_replicate_false] at hl; cases hl), fun t _ ht => getD_in (by simpa using ht) (getD_replicate_false _ _)⟩
  have H := wpAnyL_lex (md := .any) (g := l.toArray.size - n) hsel hs hc hn (l.take n) 0 _ a (fun j hj => by
    have hj' : j < n := by rw [htl] at hj; exact hj
    simp [hj']) (by simpa using htl) inv0 (by rw [htl]; exact hlex) h
  refine wpIn_region_any hm (any_in hQ (noDefer_spec hd) _ _ _ _ ?_)
  have := wpAny_of_head (Q' := Q) (g := l.toArray.size - n) (fun listed a' hL => by
    have := wpAny_of_seq (md := .any) (Q' := Q) (l.drop n) n listed a' { w with drawn := w.drawn + 1 } (fun j => by simp [List.getElem?_drop]) (by rw [hdl]; exact hL.1) hL.2
    rwa [hdl] at this) _ _ _ H
  rw [htl, show n + (l.toArray.size - n) = l.toArray.size by omega] at this
  exact this

end Go.Proofs.Ytogdhkecpjndlaa.C

/- A region in a round's frame whose loads go first, while allocations and appends may come up among them; a forced tail. -/
namespace Go.Proofs.Ytogdhkecpjndlaa.C
open Go
variable {P : Program} {md : Region.Mode} {ops : Array Oper} {Q : Exit → Act → World → Prop} {S : World → Prop} {m : Nat}

/-- Whatever order is picked from here on; behind every operation below m the fact S holds. -/
def wpAnyT (P : Program) (md : Region.Mode) (ops : Array Oper) (Q : Exit → Act → World → Prop) (S : World → Prop) (m : Nat) : Nat → Array Bool → Act → World → Prop
  | 0, listed, a, w => Region.ready md ops listed = [] ∧ Q .normal a w
  | fuel + 1, listed, a, w =>
    (Region.ready md ops listed = [] → Q .normal a w) ∧
    ∀ i ∈ Region.ready md ops listed, wpOp P ops Q i (fun a' w' => (i < m → S w') ∧ wpAnyT P md ops Q S m fuel (listed.setIfInBounds i true) a' w') a w

theorem wpAny_of_T : ∀ (fuel : Nat) (listed : Array Bool) (a : Act) (w : World), wpAnyT P md ops Q S m fuel listed a w → wpAny P md ops Q fuel listed a w
  | 0, _, _, _, h => h
  | fuel + 1, _, _, _, h => ⟨h.1, fun i hi => wpOp_mono (fun a' w' h' => wpAny_of_T fuel _ a' w' h'.2) (h.2 i hi)⟩

theorem wpAnyT_first {i : Nat} {oi : Oper} {v : Value} (him : i < m) (hi : ops[i]? = some oi) (hsel : ∀ (j : Nat) (o : Oper) cs b, ops[j]? = some o → o.op ≠ .select cs b)
    (hT : ∀ j oj, ops[j]? = some oj → m ≤ j → ∃ e ∈ oj.after, Region.binds md e = true ∧ e.on = i)
    (hQ : ∀ c a w, Q (.panic c) (a.put oi.dst v) w → Q (.panic c) a w) :
    ∀ (fuel : Nat) (listed : Array Bool) (a : Act) (w : World),
      (∀ j oj, ops[j]? = some oj → j ≠ i → listed.getD j true = false → (∀ e ∈ oj.after, Region.binds md e = true → e.on ≠ i) → oi.apart ops oj = true) →
      i ∈ Region.ready md ops listed → YieldsIf P ops S oi v a → S w →
      wpAnyT P md ops Q S m fuel (listed.setIfInBounds i true) (a.put oi.dst v) w → wpAnyT P md ops Q S m (fuel + 1) listed a w := by
  intro fuel
  induction fuel with
  | zero =>
    intro listed a w _ hr hy hS H
    refine ⟨fun h => (by rw [h] at hr; cases hr), fun j hj => ?_⟩
    by_cases hji : j = i
    · subst hji; exact hy.wpOp hi hS ⟨fun _ => hS, H⟩
    · have := ready_mono hj hji
      rw [H.1] at this
      cases this
  | succ fuel ih =>
    intro listed a w hfree hr hy hS H
    refine ⟨fun h => (by rw [h] at hr; cases hr), fun j hj => ?_⟩
    by_cases hji : j = i
    · subst hji; exact hy.wpOp hi hS ⟨fun _ => hS, H⟩
    · have h1 := H.2 j (ready_mono hj hji)
      obtain ⟨hjun, oj, hoj, hall⟩ := mem_ready.1 hj
      have hnot : ∀ e ∈ oj.after, Region.binds md e = true → e.on ≠ i := fun e he hb heq => by
        have h1 := hall e he hb
        have h0 := (mem_ready.1 hr).1
        rw [heq] at h1
        rcases Nat.lt_or_ge i listed.size with h' | h'
        · simp [h'] at h0 h1; rw [h0] at h1; cases h1
        · simp [Array.getElem?_eq_none h'] at h1
      have hjm : j < m := by
        rcases Nat.lt_or_ge j m with h | h
        · exact h
        · obtain ⟨e, he, hb, heq⟩ := hT j oj hoj h
          exact absurd heq (hnot e he hb)
      have h2 := wpOp_putIf hoj (hfree j oj hoj hji hjun hnot) (fun cs b => hsel i oi cs b hi) (fun cs b => hsel j oj cs b hoj) hQ hy h1
      have hfree' : ∀ k ok, ops[k]? = some ok → k ≠ i → (listed.setIfInBounds j true).getD k true = false →
          (∀ e ∈ ok.after, Region.binds md e = true → e.on ≠ i) → oi.apart ops ok = true := fun k ok hk hki hun hno => by
        refine hfree k ok hk hki ?_ hno
        by_cases hjk : j = k
        · subst hjk; exact hjun
        · rw [getD_set_ne true hjk] at hun; exact hun
      refine wpOp_mono (fun a' w' h3 => ⟨h3.2.1, ih (listed.setIfInBounds j true) a' w' hfree' (ready_mono hr (Ne.symm hji)) h3.1 (h3.2.1 hjm) ?_⟩) h2
      rw [Array.setIfInBounds_comm _ _ hji]
      exact h3.2.2

def tailWaits (md : Region.Mode) (ops : Array Oper) (m : Nat) : Bool := (List.range ops.size).all fun j => decide (j < m) || (List.range m).all fun i => (ops[j]?).any fun o => o.after.any fun e => Region.binds md e && (e.on == i)
theorem tailWaits_spec (h : tailWaits md ops m = true) {i : Nat} (hi : i < m) (j : Nat) (oj : Oper) (hj : ops[j]? = some oj) (hm : m ≤ j) : ∃ e ∈ oj.after, Region.binds md e = true ∧ e.on = i := by
  have h1 := List.all_eq_true.1 h j (List.mem_range.2 (Array.getElem?_eq_some_iff.1 hj).1)
  rw [Bool.or_eq_true] at h1
  rcases h1 with h1 | h1
  · simp at h1; omega
  · have h2 := List.all_eq_true.1 h1 i (List.mem_range.2 hi)
    rw [hj] at h2
    simp only [Option.any_some] at h2
    obtain ⟨e, he, hb⟩ := Array.any_eq_true'.1 h2
    rw [Bool.and_eq_true] at hb
    exact ⟨e, he, hb.1, by simpa using hb.2⟩

theorem wpAnyT_take {i : Nat} {oi : Oper} {v : Value} {fuel : Nat} {listed : Array Bool} {a : Act} {w : World} (him : i < m) (hi : ops[i]? = some oi)
    (hs : Region.noSelect ops = true) (hT : tailWaits md ops m = true) (hf : Region.free md ops listed i = true) (hr : (Region.ready md ops listed).contains i = true)
    (hQ : ∀ c a w, Q (.panic c) (a.put oi.dst v) w → Q (.panic c) a w) (hS : S w) (hy : YieldsIf P ops S oi v a)
    (h : wpAnyT P md ops Q S m fuel (listed.setIfInBounds i true) (a.put oi.dst v) w) : wpAnyT P md ops Q S m (fuel + 1) listed a w :=
  wpAnyT_first him hi (Region.noSelect_spec hs) (tailWaits_spec hT him) hQ fuel listed a w (Region.free_spec hi hf) (by simpa using hr) hy hS h

theorem upon_then {o : Oper} {a : Act} {K K' : Act → World → Prop} (hK : ∀ a w, K a w → K' a w)
    (r : Result Next) (h : o.upon P a K (Exit.then K' Q) r) : o.upon P a K' Q r := by
  cases r with
  | ok x w' =>
    cases x <;> simp only [Oper.upon] at h ⊢ <;>
      first
        | exact hK _ _ h
        | exact Calls.mono h (fun e w'' he => by cases e <;> first | exact hK _ _ he | exact he)
        | exact Rows.mono h (fun _ _ he => hK _ _ he)
  | halt x w' => cases x <;> simp only [Oper.upon] at h ⊢ <;> exact h

/-- One operation that alone may come up; behind it what is wanted, and what then follows. -/
theorem wpAnyT_one {i : Nat} {o : Oper} {fuel : Nat} {listed : Array Bool} {a : Act} {w : World} (hr : Region.ready md ops listed = [i]) (ho : ops[i]? = some o)
    (h : wpList P ops (Exit.then (fun a' w' => S w' ∧ wpAnyT P md ops Q S m fuel (listed.setIfInBounds i true) a' w') Q) [o] a w) : wpAnyT P md ops Q S m (fuel + 1) listed a w := by
  refine ⟨fun h0 => (by rw [h0] at hr; cases hr), fun j hj => ?_⟩
  rw [hr] at hj
  obtain rfl : j = i := by simpa using hj
  unfold wpOp
  simp only [ho]
  unfold wpList at h
  split
  · rename_i hw
    rw [if_pos hw] at h
    rcases h with h | ⟨h1, x, y, h2⟩
    · left
      unfold Oper.wp at *
      refine upon_then (fun a' w' hh => ?_) _ h
      exact ⟨fun _ => hh.1, hh.2⟩
    · exact .inr ⟨h1, x, y, h2⟩
  · rename_i hw
    rw [if_neg hw] at h
    exact ⟨fun _ => h.1, h.2⟩

theorem wpAnyT_seq : ∀ (l : List Oper) (k : Nat) (listed : Array Bool) (a : Act) (w : World), m ≤ k → (∀ j, l[j]? = ops[k + j]?) →
    Region.seqB md ops l.length k listed = true → wpList P ops Q l a w → wpAnyT P md ops Q S m l.length listed a w
  | [], _, _, _, _, _, _, hB, h => ⟨by simpa [Region.seqB] using hB, h⟩
  | o :: l, k, listed, a, w, hk, hl, hB, h => by
    have h0 : ops[k]? = some o := by simpa using (hl 0).symm
    simp only [List.length_cons, Region.seqB, Bool.and_eq_true, decide_eq_true_eq] at hB
    refine ⟨fun h1 => (by rw [hB.1] at h1; cases h1), fun i hi => ?_⟩
    rw [hB.1] at hi
    have hik : i = k := by simpa using hi
    subst hik
    have hw : wpOp P ops Q i (wpList P ops Q l) a w := by unfold wpOp; simp only [h0]; exact h
    exact wpOp_mono (fun a' w' h' => ⟨fun hm => by omega, wpAnyT_seq l (i + 1) _ a' w' (by omega) (fun j => by have := hl (j + 1); simpa [Nat.add_assoc, Nat.add_comm 1 j] using this) hB.2 h'⟩) hw

theorem wpAnyT_drop {l : List Oper} {k fuel : Nat} {listed : Array Bool} {a : Act} {w : World} (hk : m ≤ k) (hf : fuel = (l.drop k).length) (hB : Region.seqB md l.toArray fuel k listed = true) (h : wpList P l.toArray Q (l.drop k) a w) :
    wpAnyT P md l.toArray Q S m fuel listed a w := by
  subst hf
  exact wpAnyT_seq (l.drop k) k listed a w hk (fun j => by simp [List.getElem?_drop]) hB h
theorem grown_cell {a b : World} {row : Option Nat} {p : Addr} {v : Value} (h : a.grownBy b row) (hc : a.cell? p = some v) (hne : row ≠ some p.block) : b.cell? p = some v :=
  (World.cell?_of_block (w := a) (h.block _ (World.block_lt_of_cell? a p hc) (Ne.symm hne))).trans hc

theorem wp_region_T {id : Nat} {l : List Oper} {a : Act} {w : World} (S : World → Prop) (m : Nat) (hm : P.follows .mixedOrders = true)
    (h : wpAnyT P .any l.toArray Q S m l.length (Array.replicate l.length false) a { w with drawn := w.drawn + 1 }) : (Code.region id l.toArray true).wp P Q a w :=
  wp_region_any hm (by simpa using wpAny_of_T _ _ _ _ h)
theorem wpIn_region_T {lr n id : Nat} {l : List Oper} {a : Act} {w : World} (S : World → Prop) (m : Nat) (hQ : ¬ LetsOut Q) (hm : P.follows .mixedOrders = true) (hd : noDefer l = true)
    (h : wpAnyT P .any l.toArray Q S m l.length (Array.replicate l.length false) a { w with drawn := w.drawn + 1 }) : (Code.region id l.toArray true).wpIn (Fence.wide.inRound lr) n P Q a w :=
  wpIn_region_any hm (any_in hQ (noDefer_spec hd) _ _ _ _ (by simpa using wpAny_of_T _ _ _ _ h))

end Go.Proofs.Ytogdhkecpjndlaa.C

/- Slices of counts at work (five cells each): read, owned, appended to. -/
namespace Go.Proofs.Ytogdhkecpjndlaa.C
open Go.RowKit

def cells5 : List Cn → List Value
  | [] => []
  | c :: cs => .int .i64 c.r :: .int .i64 (c.b 0) :: .int .i64 (c.b 1) :: .int .i64 (c.b 2) :: .int .i64 (c.b 3) :: cells5 cs
def RowT (w : World) (A : Option Addr) (cs : List Cn) : Prop :=
  ∀ j c, cs[j]? = some c → ∃ b off, A = some ⟨b, off, none⟩ ∧ w.cell? ⟨b, off + j * 5, none⟩ = some (.int .i64 c.r) ∧ w.cell? ⟨b, off + j * 5 + 1, none⟩ = some (.int .i64 (c.b 0)) ∧ w.cell? ⟨b, off + j * 5 + 2, none⟩ = some (.int .i64 (c.b 1)) ∧
    w.cell? ⟨b, off + j * 5 + 3, none⟩ = some (.int .i64 (c.b 2)) ∧ w.cell? ⟨b, off + j * 5 + 4, none⟩ = some (.int .i64 (c.b 3))
def OwnT (base : Nat) (w : World) (v : Value) (xs : List Cn) : Prop := w.ownsRow base 128 5 v xs.length (cells5 xs)

theorem RowT.grow {w w1 : World} {A : Option Addr} {xs : List Cn} (h : RowT w A xs) (hb : G w w1) : RowT w1 A xs := fun j x hj => by
  obtain ⟨b, off, e, h0, h1, h2, h3, h4⟩ := h j x hj
  exact ⟨b, off, e, hb.cell h0, hb.cell h1, hb.cell h2, hb.cell h3, hb.cell h4⟩
theorem RowT.at {w : World} {A : Option Addr} {xs : List Cn} (h : RowT w A xs) {j : Nat} (hj : j < xs.length) : ∃ b off, A = some ⟨b, off, none⟩ ∧ w.cell? ⟨b, off + j * 5, none⟩ = some (.int .i64 xs[j].r) ∧ w.cell? ⟨b, off + j * 5 + 1, none⟩ = some (.int .i64 (xs[j].b 0)) ∧ w.cell? ⟨b, off + j * 5 + 2, none⟩ = some (.int .i64 (xs[j].b 1)) ∧
    w.cell? ⟨b, off + j * 5 + 3, none⟩ = some (.int .i64 (xs[j].b 2)) ∧ w.cell? ⟨b, off + j * 5 + 4, none⟩ = some (.int .i64 (xs[j].b 3)) := h j _ (List.getElem?_eq_getElem hj)
theorem cells5_at : ∀ (xs : List Cn) (j : Nat) (c : Cn), xs[j]? = some c → (cells5 xs)[j * 5]? = some (.int .i64 c.r) ∧ (cells5 xs)[j * 5 + 1]? = some (.int .i64 (c.b 0)) ∧ (cells5 xs)[j * 5 + 2]? = some (.int .i64 (c.b 1)) ∧ (cells5 xs)[j * 5 + 3]? = some (.int .i64 (c.b 2)) ∧ (cells5 xs)[j * 5 + 4]? = some (.int .i64 (c.b 3))
  | [], j, g, h => by simp at h
  | x :: xs, 0, g, h => by simp at h; subst h; simp [cells5]
  | x :: xs, j + 1, g, h => by
    have := cells5_at xs j g (by simpa using h)
    rw [show (j + 1) * 5 = j * 5 + 5 by omega]
    exact this
theorem cells5_append : ∀ (xs ys : List Cn), cells5 (xs ++ ys) = cells5 xs ++ cells5 ys
  | [], ys => rfl
  | x :: xs, ys => by simp [cells5, cells5_append xs ys]
theorem OwnT.row {w : World} {base : Nat} {v : Value} {xs : List Cn} (h : OwnT base w v xs) : ∃ A cap, v = .slice A xs.length cap ∧ xs.length ≤ cap ∧ RowT w A xs := by
  obtain ⟨A, cap, rfl, hc, hr⟩ := own_form h
  refine ⟨A, cap, rfl, hc, fun j g hj => ?_⟩
  obtain ⟨h0, h1, h2, h3, h4⟩ := cells5_at xs j g hj
  obtain ⟨b, rfl, k0⟩ := hr _ _ h0
  obtain ⟨b1, e1, k1⟩ := hr _ _ h1
  obtain ⟨b2, e2, k2⟩ := hr _ _ h2
  obtain ⟨b3, e3, k3⟩ := hr _ _ h3
  obtain ⟨b4, e4, k4⟩ := hr _ _ h4
  cases e1; cases e2; cases e3; cases e4
  exact ⟨b, 0, rfl, k0, k1, k2, k3, k4⟩
theorem OwnT.nil (w : World) (base : Nat) : OwnT base w (.slice none 0 0) [] := World.ownsRow_nil _ _ _ _
theorem own_block {w w1 : World} {base e size n : Nat} {v : Value} {cs : List Value} (h : w.ownsRow base e size v n cs) (hb : ∀ k, v.ownBlock = some k → w1.heap[k]? = w.heap[k]?) : w1.ownsRow base e size v n cs := by
  refine ⟨h.1, ?_⟩
  rcases h.2 with hn | ⟨g, cap, cur, h1, h2, h3, rest⟩
  · exact .inl hn
  · exact .inr ⟨g, cap, cur, h1, h2, (hb g (by rw [h1]; rfl)).trans h3, rest⟩

theorem info128 : (Try.prog.info? 128).map (fun i => (i.zero, i.size, i.bytes)) = some (some (.agg #[(.int .i64 0), (.int .i64 0), (.int .i64 0), (.int .i64 0), (.int .i64 0)]), 5, 40) := by kernel_rfl
theorem und118 : Try.prog.underlying 118 = some (.slice 128) := by kernel_rfl

section
variable {ops : Array Oper} {rest : List Oper} {o : Oper} {a : Act} {Q : Exit → Act → World → Prop} {W : World}
theorem app_t (base : Nat) (hgd : o.guard = none) (s x : Operand) (ho : o.op = .call { callee := .builtin .append, args := #[s, x], argTypes := #[118, 118] }) (v : Value) (xs : List Cn) (y : Cn) (hs : a.eval s = v) (b : Nat)
    (hx : a.eval x = .slice (some ⟨b, 0, none⟩) 1 1) (hn0 : W.cell? ⟨b, 0, none⟩ = some (.int .i64 y.r)) (hn1 : W.cell? ⟨b, 1, none⟩ = some (.int .i64 (y.b 0))) (hn2 : W.cell? ⟨b, 2, none⟩ = some (.int .i64 (y.b 1)))
    (hn3 : W.cell? ⟨b, 3, none⟩ = some (.int .i64 (y.b 2))) (hn4 : W.cell? ⟨b, 4, none⟩ = some (.int .i64 (y.b 3))) (HO : OwnT base W v xs) (hbase : base ≤ W.heap.size) (hl : xs.length ≤ 100000000)
    (h : ∀ v1 w1, OwnT base w1 v1 (xs ++ [y]) → W.grownBy w1 v.ownBlock → (v1.ownBlock = v.ownBlock ∨ v1.ownBlock = some W.heap.size) → wpList Try.prog ops Q rest (a.put o.dst v1) w1) :
    wpList Try.prog ops Q (o :: rest) a W :=
  app_cells 118 128 _ 5 40 und118 info128 rfl (by omega) (by omega) base hgd s x ho v xs.length (cells5 xs) (cells5 [y]) hs b hx rfl (by simp [cells5, Value.oneCell'])
    (fun j u hj => by
      match j, hj with
      | 0, hj => simp [cells5] at hj; subst hj; exact hn0
      | 1, hj => simp [cells5] at hj; subst hj; exact hn1
      | 2, hj => simp [cells5] at hj; subst hj; exact hn2
      | 3, hj => simp [cells5] at hj; subst hj; exact hn3
      | 4, hj => simp [cells5] at hj; subst hj; exact hn4
      | j + 5, hj => simp [cells5] at hj) HO hbase hl
    fun v1 w1 h2 h3 h4 => h v1 w1 (by simpa [OwnT, cells5_append] using h2) h3 h4
end
end Go.Proofs.Ytogdhkecpjndlaa.C

/- A ledger at work: its truths, and how many of them have spots. -/
namespace Go.Proofs.Ytogdhkecpjndlaa.C
open Go.RowKit Go.Shelf
attribute [local go_sem] Oper.semAt_some
set_option maxRecDepth 100000

theorem flatMap_len {α β : Type} (f : α → List β) (n : Nat) : ∀ (xs : List α), (∀ x ∈ xs, (f x).length ≤ n) → (xs.flatMap f).length ≤ xs.length * n
  | [], _ => by simp
  | x :: xs, h => by
    have h1 := h x (by simp)
    have h2 := flatMap_len f n xs (fun y hy => h y (by simp [hy]))
    rw [List.flatMap_cons, List.length_append, List.length_cons, Nat.succ_mul]
    omega
theorem choices_len : ∀ (gs : List T3), (∀ g ∈ gs, 0 ≤ g.lo ∧ g.hi ≤ 9) → (choices gs).length ≤ 10 ^ gs.length
  | [], _ => by simp [choices]
  | g :: gs, h => by
    have h1 := h g (by simp)
    have h2 := choices_len gs (fun y hy => h y (by simp [hy]))
    rw [choices]
    have h3 := flatMap_len (fun (n : Nat) => (choices gs).map fun t => (g.lo + (n : Int)) :: t) (10 ^ gs.length) (List.range (steps g)) (fun x _ => by simpa using h2)
    have h4 : steps g ≤ 10 := by unfold steps sz; omega
    rw [List.length_range] at h3
    rw [List.length_cons, Nat.pow_succ, Nat.mul_comm]
    exact Nat.le_trans h3 (Nat.mul_le_mul_right _ h4)
theorem countsL_len {l : Led} (hV : Valid l) : (countsL l).length ≤ 310000 := by
  have h1 : (choices l.gs).length ≤ 10000 := Nat.le_trans (choices_len l.gs (fun g hg => by have := hV.g g hg; omega)) (Nat.pow_le_pow_right (by omega) hV.ng)
  have h2 := flatMap_len (countsAt l) 10000 (rates l) (fun x _ => by unfold countsAt; simpa using h1)
  have h3 : (rates l).length ≤ 31 := by unfold rates; have := hV.r0; have := hV.r2; simp; omega
  have h4 : (rates l).length * 10000 ≤ 31 * 10000 := Nat.mul_le_mul_right _ h3
  unfold countsL
  omega

def okL (l : Led) (c : Cn) : Bool := rightBut l c [] 0 l.cs
def truthsL (l : Led) : List Cn := (countsL l).filter (okL l)
def cntF (ts : List Cn) (ng : Nat) : Int → Int → Int := fun g v => if 0 ≤ g ∧ g < ng then ((ts.filter fun c => decide (c.b g.toNat = v)).length : Int) else 0
theorem cntF_nil (ng : Nat) : cntF [] ng = fun _ _ => 0 := by funext g v; simp [cntF]
theorem cntF_bd (ts : List Cn) (ng : Nat) (g v : Int) : 0 ≤ cntF ts ng g v ∧ cntF ts ng g v ≤ ts.length := by
  unfold cntF
  have := List.length_filter_le (fun c : Cn => decide (c.b g.toNat = v)) ts
  split <;> omega
/-- What the map holds when k growers of the newest truth are over. -/
def midF (ts : List Cn) (ng : Nat) (x : Cn) (k : Nat) : Int → Int → Int := fun g v => cntF ts ng g v + if 0 ≤ g ∧ g < k ∧ x.b g.toNat = v then 1 else 0
theorem midF_zero (ts : List Cn) (ng : Nat) (x : Cn) : midF ts ng x 0 = cntF ts ng := by
  funext g v
  unfold midF
  rw [if_neg (by omega)]
  omega
theorem midF_at (ts : List Cn) (ng : Nat) (x : Cn) (k : Nat) (v : Int) : midF ts ng x k k v = cntF ts ng k v := by
  unfold midF
  rw [if_neg (by omega)]
  omega
theorem midF_succ (ts : List Cn) (ng : Nat) (x : Cn) (k : Nat) : upd (midF ts ng x k) k (x.b k) (cntF ts ng k (x.b k) + 1) = midF ts ng x (k + 1) := by
  funext g v
  unfold upd
  split
  · rename_i h
    rw [h.1, h.2]
    unfold midF
    rw [if_pos ⟨by omega, by omega, by simp⟩]
  · rename_i h
    unfold midF
    congr 1
    by_cases hgk : g = k
    · subst hgk
      rw [if_neg (by omega), if_neg (fun ⟨_, _, hc⟩ => h ⟨rfl, by simpa using hc.symm⟩)]
    · have e : (0 ≤ g ∧ g < (k : Int) ∧ x.b g.toNat = v) ↔ (0 ≤ g ∧ g < ((k + 1 : Nat) : Int) ∧ x.b g.toNat = v) := by
        constructor <;> rintro ⟨h1, h2, h3⟩ <;> exact ⟨h1, by omega, h3⟩
      simp only [e]
theorem midF_all (ts : List Cn) (ng : Nat) (x : Cn) : midF ts ng x ng = cntF (ts ++ [x]) ng := by
  funext g v
  unfold midF cntF
  by_cases h : 0 ≤ g ∧ g < (ng : Int)
  · rw [if_pos h, if_pos h, List.filter_append, List.length_append]
    by_cases hb : x.b g.toNat = v
    · rw [if_pos ⟨h.1, h.2, hb⟩]
      simp [hb]
    · rw [if_neg (fun hc => hb hc.2.2)]
      simp [hb]
  · rw [if_neg h, if_neg h, if_neg (fun hc => h ⟨hc.1, hc.2.1⟩)]
    omega
theorem grownBy_trans {a b c : World} {r : Option Nat} (h : a.grownBy b r) (k : b.grownBy c r) : a.grownBy c r :=
  ⟨k.os.trans h.os, k.tape.trans h.tape, k.output.trans h.output, Nat.le_trans h.size k.size, fun i hi hn => (k.block i (Nat.lt_of_lt_of_le hi h.size) hn).trans (h.block i hi hn)⟩
theorem grownBy_of {a b : World} (hb : G a b) : a.grownBy b none := ⟨hb.os, hb.tape, hb.output, hb.size, fun i hi _ => hb.block i hi⟩
def askErr (l : Led) (fine : Bool) : Int := if fault l = 0 then (if fine = true then (if truthsL l = [] then 11 else 0) else 2) else fault l
/-- What a ledger at work looks like in memory. -/
structure Asked (l : Led) (A C : Option Addr) (cA cC : Nat) (base : Nat) (B : Nat) (W : World) : Prop where
  blk : ∃ tv mb n, Blk W B 121 #[.int .i64 l.lo, .int .i64 l.hi, .slice A l.gs.length cA, .slice C l.cs.length cC, tv, .map (some mb)] ∧ OwnT base W tv (truthsL l) ∧ SpotM W mb n (cntF (truthsL l) l.gs.length) l.gs.length
  ge : base ≤ B

/-- Between two rounds. -/
structure LoopI (l : Led) (A C : Option Addr) (cA cC : Nat) (w : World) (b1 n1 : Nat) (pre : List Cn) (W : World) : Prop where
  led : Blk W w.heap.size 38 #[.int .i64 l.lo, .int .i64 l.hi, .slice A l.gs.length cA, .slice C l.cs.length cC]
  p : Blk W (b1 + 1 + 1) 115 #[ptr (b1 + 1)]
  wk : ∃ tv, Blk W (b1 + 1) 121 #[.int .i64 l.lo, .int .i64 l.hi, .slice A l.gs.length cA, .slice C l.cs.length cC, tv, .map (some b1)] ∧ OwnT (n1 + 5) W tv (pre.filter (okL l))
  m : SpotM W b1 (4 * pre.length) (cntF (pre.filter (okL l)) l.gs.length) l.gs.length
  g : G w W
theorem LoopI.turn {l : Led} {A C : Option Addr} {cA cC : Nat} {w : World} {b1 n1 : Nat} {pre : List Cn} {W W' : World} (h : LoopI l A C cA cC w b1 n1 pre W) (hb : w.heap.size < b1) (hn : b1 + 4 ≤ n1) (ht : Turn n1 W W') : LoopI l A C cA cC w b1 n1 pre W' := by
  obtain ⟨tv, h1, h2⟩ := h.wk
  exact ⟨ht.blk (by omega) h.led, ht.blk (by omega) h.p, ⟨tv, ht.blk (by omega) h1, own_block h2 (fun k hk => ht.block k (own_lt h2 k hk) (by have := own_base h2 k hk; omega))⟩,
    h.m.block (ht.block _ h.m.lt (by omega)), Below.trans h.g (ht.below (by omega))⟩
theorem LoopI.grow {l : Led} {A C : Option Addr} {cA cC : Nat} {w : World} {b1 n1 : Nat} {pre : List Cn} {W W' : World} (h : LoopI l A C cA cC w b1 n1 pre W) (hg : G W W') : LoopI l A C cA cC w b1 n1 pre W' := by
  obtain ⟨tv, h1, h2⟩ := h.wk
  exact ⟨h.led.grow hg, h.p.grow hg, ⟨tv, h1.grow hg, own_grow h2 hg⟩, h.m.grow hg, h.g.trans hg⟩

set_option maxHeartbeats 4000000 in
theorem asked_c (l : Led) (A C : Option Addr) (cA cC : Nat) (fine : Bool) (w : World) (hL : LedR w l A C) (hg : l.gs.length ≤ 30) (hc : l.cs.length ≤ 30) :
    Calls Try.prog 74 #[ledV l A C cA cC, .bool fine] w fun e w' => G w w' ∧ (askErr l fine ≠ 0 ∧ e = .returned (.tuple #[.pointer none, .int .i64 (askErr l fine)]) ∨ askErr l fine = 0 ∧ ∃ B, e = .returned (.tuple #[ptr B, .int .i64 0]) ∧ Asked l A C cA cC w.heap.size B w') := by
  refine (callsIn_wide (n := 6)).1 ?_
  refine callsIn_of_wp_marks Try.func74 rfl trivial ?_ rfl
  simp only [Try.ntmps74, List.size_toArray, List.length_cons, List.length_nil, Nat.reduceAdd, Nat.reduceSub, Array.replicate_succ, Array.replicate_zero, List.push_toArray, List.append_toArray, List.nil_append, List.cons_append]
  have hck := fun w1 (hb : G w w1) => Check_c l A C cA cC w1 (hL.grow hb) hg hc
  by_cases hf : fault l = 0
  · rw [hf] at hck
    have HF := Lib.hid hf
    have hV := valid_of hf
    clear hf
    cases fine
    · have HE := Lib.hid (show askErr l false = 2 by unfold askErr; rw [if_pos HF.out]; rfl)
      gi_wp2_with (refine ⟨trivial, ?_⟩; gi_at_call 58; refine (callsIn_wide.2 (hck _ ((G.refl _).alloc _))).mono ?_; rintro e w1 ⟨rfl, hb1⟩)
      exact ⟨.tuple #[.pointer none, .int .i64 2], by simp [results, Try.results74, go_sem], ((G.refl _).alloc _).trans hb1, .inl ⟨by rw [HE.out]; omega, by rw [HE.out]⟩⟩
    · have hmm := @run_makeMap Try.prog
      refine wpIn_wide.2 ?_
      go_upto_region 7 with (go_at_call 58; refine (hck _ ((G.refl _).alloc _)).mono ?_; rintro e w1 ⟨rfl, hb1⟩; have n0 : Blk w1 w.heap.size 38 #[.int .i64 l.lo, .int .i64 l.hi, .slice A l.gs.length cA, .slice C l.cs.length cC] := (Blk.new _ _ _).grow hb1; have c0 := n0.cell 0 (v := .int .i64 l.lo) rfl; have c1 := n0.cell 1 (v := .int .i64 l.hi) rfl; have c2 := n0.cell 2 (v := .slice A l.gs.length cA) rfl; have c3 := n0.cell 3 (v := .slice C l.cs.length cC) rfl; have hs := cell_lt c0)
      have hB1 : G w w1 := ((G.refl _).alloc _).trans hb1
      generalize hW : ((w1.alloc _).alloc _).alloc _ = W
      have g1 : G w1 W := by rw [← hW]; exact (((G.refl _).alloc _).alloc _).alloc _
      have hz : W.heap.size = w1.heap.size + 3 := by rw [← hW]; simp
      have q0 : SpotM W w1.heap.size 0 (fun _ _ => 0) l.gs.length := by rw [← hW]; exact ((SpotM.made w1 _).grow ((G.refl _).alloc _)).grow ((G.refl _).alloc _)
      have q1 : Blk W (w1.heap.size + 1) 121 #[.int .i64 l.lo, .int .i64 l.hi, .slice A l.gs.length cA, .slice C l.cs.length cC, .slice none 0 0, .map (some w1.heap.size)] := by rw [← hW]; exact (Blk.new' (by simp)).grow ((G.refl _).alloc _)
      have q2 : Blk W (w1.heap.size + 1 + 1) 115 #[ptr (w1.heap.size + 1)] := by rw [← hW]; exact Blk.new' (by simp)
      have n1 := n0.grow g1
      clear hW c0 c1 c2 c3 n0
      have c0 := n1.cell 0 (v := .int .i64 l.lo) rfl
      have c1 := n1.cell 1 (v := .int .i64 l.hi) rfl
      have c2 := n1.cell 2 (v := .slice A l.gs.length cA) rfl
      have c3 := n1.cell 3 (v := .slice C l.cs.length cC) rfl
      go_wp2_with (go_at_call 108; refine (counts_c l A C cA cC _).mono ?_; rintro e w3 ⟨rfl, mB, m3, hz3⟩)
      rw [hz] at m3 hz3
      refine (wpIn_wide (n := 6)).1 ?_
      have hw1 : w.heap.size < w1.heap.size := hs
      refine range_counts hV rfl (hB1.trans (g1.trans mB)) (by omega : w.heap.size ≤ w1.heap.size + 3) m3 hL.g
        (fun pre W => LoopI l A C cA cC w w1.heap.size w3.heap.size pre W)
        (fun _ _ _ => False)
        (fun pre Wa Wb h ht => h.turn hw1 (by omega) ht)
        (fun _ _ _ _ h _ => h)
        ⟨n1.grow mB, q2.grow mB, ⟨_, q1.grow mB, OwnT.nil _ _⟩, by rw [List.filter_nil, cntF_nil]; exact q0.grow mB, hB1.trans (g1.trans mB)⟩
        (fun x a' W => ∃ bx, w3.heap.size + 5 ≤ bx ∧ (∀ tv, Blk W (w1.heap.size + 1) 121 #[.int .i64 l.lo, .int .i64 l.hi, .slice A l.gs.length cA, .slice C l.cs.length cC, tv, .map (some w1.heap.size)] → tv.ownBlock ≠ some bx) ∧ Blk W bx 128 #[.int .i64 x.r, .int .i64 (x.b 0), .int .i64 (x.b 1), .int .i64 (x.b 2), .int .i64 (x.b 3)] ∧ a' = { tmps := #[ledV l A C cA cC, .bool true, ptr w.heap.size, undef, .pointer none, .int .i64 0, .int .i64 0, ptr (w1.heap.size + 1 + 1), ptr bx, undef, ledV l A C cA cC,
          .int .i64 0, .int .i64 0, .bool false, undef, .bool true, .bool false, ledV l A C cA cC, .map (some w1.heap.size), .agg #[.int .i64 l.lo, .int .i64 l.hi, .slice A l.gs.length cA, .slice C l.cs.length cC, .slice none 0 0, .map (some w1.heap.size)], ptr (w1.heap.size + 1),
          ledV l A C cA cC, .func (.func 121) #[] #[ptr (w1.heap.size + 3)], cntV x, undef, undef, undef, undef, undef, undef, undef, undef, undef, undef, undef, undef, undef, undef, undef, undef, undef, undef, undef, undef, undef, undef, undef, undef, undef, undef, undef, undef, undef, undef, undef, undef, undef, undef, undef, undef, undef, undef, undef, undef, undef, undef], defers := [] })
        ?_ ?assign ?body ?done (fun _ _ _ _ h _ => h.elim)
      · rintro x a' Wa Wb ⟨bx, h1, hd, h2, h3⟩ ht
        exact ⟨bx, h1, fun tv hb => hd tv ((ht.block _ (by have := ht.lo; omega) (by omega)).symm.trans hb), (ht.block bx h2.lt (by omega)).trans h2, h3⟩
      case assign =>
        rintro lr pre x W K hs hI hK
        simp only [List.setIfInBounds_toArray, List.set_cons_succ, List.set_cons_zero]
        gi_wp2
        exact hK _ _ (Keep5.of_grow ((G.refl W).alloc _) (by omega) (by omega) (by omega)) (hI.grow ((G.refl _).alloc _)) ⟨W.heap.size, by omega, fun tv hb => by
          obtain ⟨tv', hwk, hot⟩ := hI.wk
          have e := (hwk.grow ((G.refl W).alloc _)).symm.trans hb
          injection e with e
          injection e with e
          have : tv' = tv := by simpa using e
          subst this
          intro e2
          have := own_lt hot _ e2
          omega, Blk.new _ _ _, rfl⟩
      case body =>
        rintro lr pre x a' W hs hpx hI ⟨bx, hbx, hdx, hx, rfl⟩
        have hK := cntOk_of hV ((countsL_mem l x).1 (hpx.subset (by simp)))
        have hR : Calls Try.prog 95 #[ledV l A C cA cC, cntV x, .slice none 0 0] W (fun e w' => e = .returned (.bool (okL l x)) ∧ G W w') := right_c l A C none cA cC 0 x [] W hV hK (hL.grow hI.g) RowI.nil (by simp)
        have HI := Lib.hid hI
        have c00 := hI.led.cell 0 (v := .int .i64 l.lo) rfl
        have c01 := hI.led.cell 1 (v := .int .i64 l.hi) rfl
        have c02 := hI.led.cell 2 (v := .slice A l.gs.length cA) rfl
        have c03 := hI.led.cell 3 (v := .slice C l.cs.length cC) rfl
        have x0 := hx.cell 0 (v := .int .i64 x.r) rfl
        have x1 := hx.cell 1 (v := .int .i64 (x.b 0)) rfl
        have x2 := hx.cell 2 (v := .int .i64 (x.b 1)) rfl
        have x3 := hx.cell 3 (v := .int .i64 (x.b 2)) rfl
        have x4 := hx.cell 4 (v := .int .i64 (x.b 3)) rfl
        have HPX := Lib.hid hpx
        clear hpx hI q0 q1 q2 n1 m3
        cases hr : okL l x
        · rw [hr] at hR
          have HR := Lib.hid hr
          clear hr
          gi_wp2_with (refine ⟨trivial, ?_⟩; gi_at_call 95; refine (CallsIn.inRound lr (callsIn_wide.2 hR)).mono ?_; rintro e w5 ⟨rfl, hb5⟩)
          refine ⟨Keep5.of_grow hb5 (by omega) (by omega) (by omega), ?_⟩
          have h := HI.out.grow hb5
          have hfl : (pre ++ [x]).filter (okL l) = pre.filter (okL l) := by rw [List.filter_append]; simp [HR.out]
          exact ⟨h.led, h.p, by rw [hfl]; exact h.wk, by rw [hfl]; exact h.m.mono (by simp; omega), h.g⟩
        · rw [hr] at hR
          have HR := Lib.hid hr
          clear hr
          gi_wp2_with (refine ⟨trivial, ?_⟩; gi_at_call 95; refine (CallsIn.inRound lr (callsIn_wide.2 hR)).mono ?_; rintro e w5 ⟨rfl, hb5⟩)
          have h5 := HI.out.grow hb5
          obtain ⟨tv, hwk, hot⟩ := h5.wk
          obtain ⟨At, ct, rfl, -, -⟩ := OwnT.row hot
          have hdj : (Value.slice At (pre.filter (okL l)).length ct).ownBlock ≠ some bx := by
            obtain ⟨tv', hwk', -⟩ := HI.out.wk
            have e := (hwk'.grow hb5).symm.trans hwk
            injection e with e
            injection e with e
            have : tv' = .slice At (pre.filter (okL l)).length ct := by simpa using e
            rw [← this]
            exact hdx _ hwk'
          have HD := Lib.hid hdj
          have HO := Lib.hid hot
          have HW := Lib.hid hwk
          have H5 := Lib.hid h5
          have d0 : w5.cell? ⟨w1.heap.size + 1 + 1, 0, none⟩ = some (ptr (w1.heap.size + 1)) := h5.p.cell 0 rfl
          have d1 : w5.cell? ⟨w1.heap.size + 1, 4, none⟩ = some (.slice At (pre.filter (okL l)).length ct) := hwk.cell 4 rfl
          have y0 := hb5.cell x0
          have y1 := hb5.cell x1
          have y2 := hb5.cell x2
          have y3 := hb5.cell x3
          have y4 := hb5.cell x4
          clear hot hwk h5 hdj hdx
          refine wpIn_region_T (fun w' => w'.cell? ⟨w1.heap.size + 1 + 1, 0, none⟩ = some (ptr (w1.heap.size + 1)) ∧ w'.cell? ⟨w1.heap.size + 1, 4, none⟩ = some (.slice At (pre.filter (okL l)).length ct) ∧ w'.cell? ⟨bx, 0, none⟩ = some (.int .i64 x.r) ∧ w'.cell? ⟨bx, 1, none⟩ = some (.int .i64 (x.b 0)) ∧ w'.cell? ⟨bx, 2, none⟩ = some (.int .i64 (x.b 1)) ∧ w'.cell? ⟨bx, 3, none⟩ = some (.int .i64 (x.b 2)) ∧ w'.cell? ⟨bx, 4, none⟩ = some (.int .i64 (x.b 3))) 8 (fun ⟨_, _, h⟩ => h) (by kernel_rfl) (by kernel_rfl) ?_
          obtain ⟨z, hz5⟩ : ∃ z : World, z = { w5 with drawn := w5.drawn + 1 } := ⟨_, rfl⟩
          rw [← hz5]
          have gz : G w5 z := by rw [hz5]; exact (G.refl _).drew
          clear hz5
          have HS : (fun w' : World => w'.cell? ⟨w1.heap.size + 1 + 1, 0, none⟩ = some (ptr (w1.heap.size + 1)) ∧ w'.cell? ⟨w1.heap.size + 1, 4, none⟩ = some (.slice At (pre.filter (okL l)).length ct) ∧ w'.cell? ⟨bx, 0, none⟩ = some (.int .i64 x.r) ∧ w'.cell? ⟨bx, 1, none⟩ = some (.int .i64 (x.b 0)) ∧ w'.cell? ⟨bx, 2, none⟩ = some (.int .i64 (x.b 1)) ∧ w'.cell? ⟨bx, 3, none⟩ = some (.int .i64 (x.b 2)) ∧ w'.cell? ⟨bx, 4, none⟩ = some (.int .i64 (x.b 3))) z := ⟨gz.cell d0, gz.cell d1, gz.cell y0, gz.cell y1, gz.cell y2, gz.cell y3, gz.cell y4⟩
          refine wpAnyT_take (i := 0) (v := ptr (w1.heap.size + 1)) (by decide) rfl (by kernel_rfl) (by kernel_rfl) (by kernel_rfl) (by kernel_rfl) (fun _ _ _ h => h) HS (Or.inl ⟨by rfl, ?_⟩) ?_
          · rintro w ⟨s0, s1, s2, s3, s4, s5, s6⟩
            go_simp
          refine wpAnyT_take (i := 1) (v := ptr (w1.heap.size + 1)) (by decide) rfl (by kernel_rfl) (by kernel_rfl) (by kernel_rfl) (by kernel_rfl) (fun _ _ _ h => h) HS (Or.inl ⟨by rfl, ?_⟩) ?_
          · rintro w ⟨s0, s1, s2, s3, s4, s5, s6⟩
            go_simp
          refine wpAnyT_take (i := 2) (v := ptr (w1.heap.size + 1)) (by decide) rfl (by kernel_rfl) (by kernel_rfl) (by kernel_rfl) (by kernel_rfl) (fun _ _ _ h => h) HS (Or.inl ⟨by rfl, ?_⟩) ?_
          · rintro w ⟨s0, s1, s2, s3, s4, s5, s6⟩
            go_simp
          refine wpAnyT_take (i := 3) (v := .pointer (some ⟨w1.heap.size + 1, 4, none⟩)) (by decide) rfl (by kernel_rfl) (by kernel_rfl) (by kernel_rfl) (by kernel_rfl) (fun _ _ _ h => h) HS (Or.inl ⟨by rfl, ?_⟩) ?_
          · rintro w ⟨s0, s1, s2, s3, s4, s5, s6⟩
            go_simp
          refine wpAnyT_take (i := 4) (v := .slice At (pre.filter (okL l)).length ct) (by decide) rfl (by kernel_rfl) (by kernel_rfl) (by kernel_rfl) (by kernel_rfl) (fun _ _ _ h => h) HS (Or.inl ⟨by rfl, ?_⟩) ?_
          · rintro w ⟨s0, s1, s2, s3, s4, s5, s6⟩
            go_simp
          refine wpAnyT_take (i := 5) (v := cntV x) (by decide) rfl (by kernel_rfl) (by kernel_rfl) (by kernel_rfl) (by kernel_rfl) (fun _ _ _ h => h) HS (Or.inl ⟨by rfl, ?_⟩) ?_
          · rintro w ⟨s0, s1, s2, s3, s4, s5, s6⟩
            go_simp
          simp only [Act.put, List.setIfInBounds_toArray, List.set_cons_zero, List.set_cons_succ]
          refine wpAnyT_one (i := 6) (by kernel_rfl) rfl ?_
          go_wp2_with fail
          refine ⟨⟨((G.refl z).alloc _).cell (gz.cell d0), ((G.refl z).alloc _).cell (gz.cell d1), ((G.refl z).alloc _).cell (gz.cell y0), ((G.refl z).alloc _).cell (gz.cell y1), ((G.refl z).alloc _).cell (gz.cell y2), ((G.refl z).alloc _).cell (gz.cell y3), ((G.refl z).alloc _).cell (gz.cell y4)⟩, ?_⟩
          have hbase : w3.heap.size + 5 ≤ (z.alloc (.cells #[.int .i64 x.r, .int .i64 (x.b 0), .int .i64 (x.b 1), .int .i64 (x.b 2), .int .i64 (x.b 3)] 128)).heap.size := by
            have h1 := gz.size
            have h2 := hb5.size
            simp
            omega
          have hlen : (pre.filter (okL l)).length ≤ 100000000 := by
            have h1 := List.length_filter_le (okL l) pre
            have h2 := HPX.out.length_le
            have h3 := countsL_len hV
            simp at h2
            omega
          refine wpAnyT_one (i := 7) (by kernel_rfl) rfl ?_
          refine app_t (w3.heap.size + 5) rfl _ _ rfl _ _ x rfl z.heap.size rfl (newCell _ _ _ _ rfl) (newCell _ _ _ _ rfl) (newCell _ _ _ _ rfl) (newCell _ _ _ _ rfl) (newCell _ _ _ _ rfl) (own_grow HO.out (gz.alloc _)) hbase hlen ?_
          intro v1 w7 hown1 hg1 hloc
          obtain ⟨A1, ca1, rfl, -, -⟩ := OwnT.row hown1
          simp only [List.length_append, List.length_cons, List.length_nil, Nat.zero_add] at hown1
          have g6 : G w5 (z.alloc (.cells #[.int .i64 x.r, .int .i64 (x.b 0), .int .i64 (x.b 1), .int .i64 (x.b 2), .int .i64 (x.b 3)] 128)) := gz.alloc _
          have hob := fun k hk => own_base HO.out k hk
          have hz3' : w3.heap.size = w1.heap.size + 4 := by omega
          have hne : ∀ k, k < w3.heap.size + 5 → (Value.slice At (pre.filter (okL l)).length ct).ownBlock ≠ some k := fun k hk e => by have := hob k e; omega
          refine And.intro ⟨grown_cell hg1 (g6.cell d0) (hne _ (by simp; omega)), grown_cell hg1 (g6.cell d1) (hne _ (by simp; omega)), grown_cell hg1 (g6.cell y0) HD.out, grown_cell hg1 (g6.cell y1) HD.out, grown_cell hg1 (g6.cell y2) HD.out, grown_cell hg1 (g6.cell y3) HD.out, grown_cell hg1 (g6.cell y4) HD.out⟩ ?_
          have d07 := grown_cell hg1 (g6.cell d0) (hne _ (by simp; omega))
          have hw7 : Blk w7 (w1.heap.size + 1) 121 #[.int .i64 l.lo, .int .i64 l.hi, .slice A l.gs.length cA, .slice C l.cs.length cC, .slice At (pre.filter (okL l)).length ct, .map (some w1.heap.size)] := (HW.out.grow g6).grown hg1 (Ne.symm (hne _ (by omega)))
          have d17 := hw7.cell 4 (v := .slice At (pre.filter (okL l)).length ct) rfl
          have d18 := hw7.frozen 4
          refine wpAnyT_drop (k := 8) (by decide) rfl (by kernel_rfl) ?_
          simp only [Act.put, List.setIfInBounds_toArray, List.set_cons_zero, List.set_cons_succ, List.drop_succ_cons, List.drop_zero]
          go_wp2_with fail
          have hpl : pre.length + 1 ≤ 310000 := by
            have h2 := HPX.out.length_le
            have h3 := countsL_len hV
            simp at h2
            omega
          obtain ⟨w8, h8⟩ : ∃ w8, w8 = w7.setCell ⟨w1.heap.size + 1, 4, none⟩ (.slice A1 ((pre.filter (okL l)).length + 1) ca1) := ⟨_, rfl⟩
          rw [← h8]
          have blk8 : ∀ k, k < w3.heap.size + 5 → k ≠ w1.heap.size + 1 → w8.heap[k]? = w5.heap[k]? := fun k hk hn => by
            have h1 := gz.size
            have h2 := hb5.size
            rw [h8]
            exact (Below.heap_setCell w7 _ _ k hn).trans ((hg1.block k (by simp; omega) (Ne.symm (hne k hk))).trans (g6.block k (by omega)))
          have hb8 : Below w.heap.size w5 w8 := by
            have h1 := hb5.size
            have hs8 : w5.heap.size ≤ w8.heap.size := by
              rw [h8]
              have h2 := g6.size
              have h3 := hg1.size
              simp only [World.setCell, Array.size_modify]
              omega
            refine ⟨?_, ?_, ?_, hs8, fun k hk => blk8 k (by omega) (by omega)⟩
            · rw [h8]; exact hg1.os.trans g6.os
            · rw [h8]; exact hg1.tape.trans g6.tape
            · rw [h8]; exact hg1.output.trans g6.output
          have e0 : Blk w8 (w1.heap.size + 1) 121 #[.int .i64 l.lo, .int .i64 l.hi, .slice A l.gs.length cA, .slice C l.cs.length cC, .slice A1 ((pre.filter (okL l)).length + 1) ca1, .map (some w1.heap.size)] := by rw [h8]; exact hw7.set 4 _
          have e1 : OwnT (w3.heap.size + 5) w8 (.slice A1 ((pre.filter (okL l)).length + 1) ca1) (pre.filter (okL l) ++ [x]) := by
            rw [h8]
            exact own_block hown1 (fun k hk => Below.heap_setCell w7 _ _ k (by have := own_base hown1 k hk; simp; omega))
          have e2 : Blk w8 (w1.heap.size + 1 + 1) 115 #[ptr (w1.heap.size + 1)] := (blk8 _ (by omega) (by omega)).trans H5.out.p
          have e3 : Blk w8 w.heap.size 38 #[.int .i64 l.lo, .int .i64 l.hi, .slice A l.gs.length cA, .slice C l.cs.length cC] := (blk8 _ (by omega) (by omega)).trans H5.out.led
          have e4 : SpotM w8 w1.heap.size (4 * pre.length) (cntF (pre.filter (okL l)) l.gs.length) l.gs.length := H5.out.m.block (blk8 _ (by omega) (by omega))
          have e5 : Blk w8 bx 128 #[.int .i64 x.r, .int .i64 (x.b 0), .int .i64 (x.b 1), .int .i64 (x.b 2), .int .i64 (x.b 3)] := by
            have h1 := ((hx.grow hb5).grow g6).grown hg1 (Ne.symm HD.out)
            rw [h8]
            exact h1.far (by simp; omega) _
          clear h8
          have z0 := e3.cell 2 (v := .slice A l.gs.length cA) rfl
          have E0 := Lib.hid e0
          have E1 := Lib.hid e1
          have E2 := Lib.hid e2
          have E3 := Lib.hid e3
          have E4 := Lib.hid e4
          have E5 := Lib.hid e5
          have B8 := Lib.hid blk8
          have K8 := Lib.hid hb8
          clear e0 e1 e2 e3 e4 e5 blk8 hb8 hown1 hg1 hloc hw7 d17 d18 d07 hne hob
          gi_wp2_with fail
          have hng := hV.ng
          have HGH : Hid (∀ (wr : World) (b : Nat) (t : TypeId) (cs : Array Value), w8.grownBy wr (some w1.heap.size) → b ≠ w1.heap.size → Blk w8 b t cs → Blk wr b t cs) := fun _ _ _ _ h hn hb => hb.grown h (fun e => hn (by injection e))
          gi_loopw [41] (fun v41 wr => ∃ k : Nat, k ≤ l.gs.length ∧ v41 = .int .i64 k ∧ SpotM wr w1.heap.size (4 * pre.length + k) (midF (pre.filter (okL l)) l.gs.length x k) l.gs.length ∧ w8.grownBy wr (some w1.heap.size)) (fun v41 _ => l.gs.length - (intOf v41).toNat)
          case atStart => exact ⟨0, by omega, rfl, by rw [midF_zero]; exact E4.out, ⟨rfl, rfl, rfl, Nat.le_refl _, fun _ _ _ => rfl⟩⟩
          case round =>
            obtain ⟨k, hk, rfl, hM, hgr⟩ := hrel
            by_cases hlt : k < l.gs.length
            · have f0 := (HGH.out wr _ _ _ hgr (by omega) E2.out).cell 0 (v := ptr (w1.heap.size + 1)) rfl
              have f1 := (HGH.out wr _ _ _ hgr (by omega) E0.out).cell 5 (v := .map (some w1.heap.size)) rfl
              have f2 := (HGH.out wr _ _ _ hgr (by omega) E5.out).cell (1 + k) (cnt_at x k (by omega))
              have hk4 : (k : Int) < 4 := by omega
              have hk0 : (0 : Int) ≤ k := by omega
              have hfk : Fits (k : Int) := fits_small (by omega)
              have hbk := hK.at k
              have hfb : Fits (x.b k) := fits_small (by omega)
              have hcb := cntF_bd (pre.filter (okL l)) l.gs.length k (x.b k)
              have hfl2 := List.length_filter_le (okL l) pre
              gi_wp2_with fail
              generalize hcc : cntF (pre.filter (okL l)) l.gs.length k (x.b k) = c at hcb
              have hw11 : IntKind.i64.wrap (c + 1) = c + 1 := by simp [IntKind.wrap, IntKind.bits, IntKind.signed]; omega
              refine wpIn_region_T (fun w' : World => w'.cell? ⟨w1.heap.size + 1 + 1, 0, none⟩ = some (ptr (w1.heap.size + 1)) ∧ w'.cell? ⟨w1.heap.size + 1, 5, none⟩ = some (.map (some w1.heap.size)) ∧ w'.cell? ⟨bx, 1 + k, none⟩ = some (.int .i64 (x.b k)) ∧ (Instr.lookup 119 (.map (some w1.heap.size)) (spot k (x.b k)) false).run Try.prog w' = .ok (.int .i64 c) w') 14 (fun ⟨_, _, h⟩ => h) (by kernel_rfl) (by kernel_rfl) ?_
              obtain ⟨z, hz5⟩ : ∃ z : World, z = { wr with drawn := wr.drawn + 1 } := ⟨_, rfl⟩
              rw [← hz5]
              have gz : G wr z := by rw [hz5]; exact (G.refl _).drew
              clear hz5
              have hMz := hM.grow gz
              have hlook := hMz.look hfk hfb
              rw [midF_at, hcc] at hlook
              obtain ⟨v0, st, wz, hen, wz2, hst, hM2, hgr2, hMe, hgre⟩ := hMz.put (c := c + 1) (by omega) hk0 (by omega) hfk hfb (fits_small (by omega))
              have hlook2 := hMe.look hfk hfb
              rw [midF_at, hcc] at hlook2
              rw [← hcc, midF_succ] at hM2
              have f0e := grown_cell hgre (gz.cell f0) (by simp; omega)
              have f1e := grown_cell hgre (gz.cell f1) (by simp)
              have f2e := grown_cell hgre (gz.cell f2) (by simp; omega)
              have HM2 := Lib.hid hM2
              have HGR := Lib.hid hgr2
              have HGZ := Lib.hid gz
              have HS : (fun w' : World => w'.cell? ⟨w1.heap.size + 1 + 1, 0, none⟩ = some (ptr (w1.heap.size + 1)) ∧ w'.cell? ⟨w1.heap.size + 1, 5, none⟩ = some (.map (some w1.heap.size)) ∧ w'.cell? ⟨bx, 1 + k, none⟩ = some (.int .i64 (x.b k)) ∧ (Instr.lookup 119 (.map (some w1.heap.size)) (spot k (x.b k)) false).run Try.prog w' = .ok (.int .i64 c) w') z := ⟨gz.cell f0, gz.cell f1, gz.cell f2, hlook⟩
              have HS2 : (fun w' : World => w'.cell? ⟨w1.heap.size + 1 + 1, 0, none⟩ = some (ptr (w1.heap.size + 1)) ∧ w'.cell? ⟨w1.heap.size + 1, 5, none⟩ = some (.map (some w1.heap.size)) ∧ w'.cell? ⟨bx, 1 + k, none⟩ = some (.int .i64 (x.b k)) ∧ (Instr.lookup 119 (.map (some w1.heap.size)) (spot k (x.b k)) false).run Try.prog w' = .ok (.int .i64 c) w') wz := ⟨f0e, f1e, f2e, hlook2⟩
              have HCC := Lib.hid hcc
              clear hM2 hgr2 gz f0 f1 f2 hcc hMe hgre
              refine wpAnyT_take (i := 0) (v := ptr (w1.heap.size + 1)) (by decide) rfl (by kernel_rfl) (by kernel_rfl) (by kernel_rfl) (by kernel_rfl) (fun _ _ _ h => h) HS (Or.inl ⟨by rfl, ?_⟩) ?_
              · rintro w ⟨s0, s1, s2, s3⟩
                go_simp
              simp only [Act.put, List.setIfInBounds_toArray, List.set_cons_succ, List.set_cons_zero]
              refine wpAnyT_take (i := 1) (v := ptr (w1.heap.size + 1)) (by decide) rfl (by kernel_rfl) (by kernel_rfl) (by kernel_rfl) (by kernel_rfl) (fun _ _ _ h => h) HS (Or.inl ⟨by rfl, ?_⟩) ?_
              · rintro w ⟨s0, s1, s2, s3⟩
                go_simp
              simp only [Act.put, List.setIfInBounds_toArray, List.set_cons_succ, List.set_cons_zero]
              refine wpAnyT_take (i := 2) (v := .pointer (some ⟨w1.heap.size + 1, 5, none⟩)) (by decide) rfl (by kernel_rfl) (by kernel_rfl) (by kernel_rfl) (by kernel_rfl) (fun _ _ _ h => h) HS (Or.inl ⟨by rfl, ?_⟩) ?_
              · rintro w ⟨s0, s1, s2, s3⟩
                go_simp
              simp only [Act.put, List.setIfInBounds_toArray, List.set_cons_succ, List.set_cons_zero]
              refine wpAnyT_take (i := 3) (v := .map (some w1.heap.size)) (by decide) rfl (by kernel_rfl) (by kernel_rfl) (by kernel_rfl) (by kernel_rfl) (fun _ _ _ h => h) HS (Or.inl ⟨by rfl, ?_⟩) ?_
              · rintro w ⟨s0, s1, s2, s3⟩
                go_simp
              simp only [Act.put, List.setIfInBounds_toArray, List.set_cons_succ, List.set_cons_zero]
              refine wpAnyT_take (i := 4) (v := .int .i64 k) (by decide) rfl (by kernel_rfl) (by kernel_rfl) (by kernel_rfl) (by kernel_rfl) (fun _ _ _ h => h) HS (Or.inl ⟨by rfl, ?_⟩) ?_
              · rintro w ⟨s0, s1, s2, s3⟩
                go_simp
              simp only [Act.put, List.setIfInBounds_toArray, List.set_cons_succ, List.set_cons_zero]
              refine wpAnyT_take (i := 5) (v := .int .i64 k) (by decide) rfl (by kernel_rfl) (by kernel_rfl) (by kernel_rfl) (by kernel_rfl) (fun _ _ _ h => h) HS (Or.inl ⟨by rfl, ?_⟩) ?_
              · rintro w ⟨s0, s1, s2, s3⟩
                go_simp
              simp only [Act.put, List.setIfInBounds_toArray, List.set_cons_succ, List.set_cons_zero]
              refine wpAnyT_take (i := 6) (v := .pointer (some ⟨bx, 1, none⟩)) (by decide) rfl (by kernel_rfl) (by kernel_rfl) (by kernel_rfl) (by kernel_rfl) (fun _ _ _ h => h) HS (Or.inl ⟨by rfl, ?_⟩) ?_
              · rintro w ⟨s0, s1, s2, s3⟩
                go_simp
              simp only [Act.put, List.setIfInBounds_toArray, List.set_cons_succ, List.set_cons_zero]
              refine wpAnyT_take (i := 7) (v := .pointer (some ⟨bx, 1 + k, none⟩)) (by decide) rfl (by kernel_rfl) (by kernel_rfl) (by kernel_rfl) (by kernel_rfl) (fun _ _ _ h => h) HS (Or.inl ⟨by rfl, ?_⟩) ?_
              · rintro w ⟨s0, s1, s2, s3⟩
                go_simp
              simp only [Act.put, List.setIfInBounds_toArray, List.set_cons_succ, List.set_cons_zero]
              refine wpAnyT_take (i := 8) (v := .int .i64 (x.b k)) (by decide) rfl (by kernel_rfl) (by kernel_rfl) (by kernel_rfl) (by kernel_rfl) (fun _ _ _ h => h) HS (Or.inl ⟨by rfl, ?_⟩) ?_
              · rintro w ⟨s0, s1, s2, s3⟩
                go_simp
              simp only [Act.put, List.setIfInBounds_toArray, List.set_cons_succ, List.set_cons_zero]
              refine wpAnyT_take (i := 9) (v := spot k (x.b k)) (by decide) rfl (by kernel_rfl) (by kernel_rfl) (by kernel_rfl) (by kernel_rfl) (fun _ _ _ h => h) HS (Or.inl ⟨by rfl, ?_⟩) ?_
              · rintro w ⟨s0, s1, s2, s3⟩
                go_simp
              simp only [Act.put, List.setIfInBounds_toArray, List.set_cons_succ, List.set_cons_zero]
              refine wpAnyT_take (i := 10) (v := .int .i64 c) (by decide) rfl (by kernel_rfl) (by kernel_rfl) (by kernel_rfl) (by kernel_rfl) (fun _ _ _ h => h) HS (Or.inl ⟨by rfl, ?_⟩) ?_
              · rintro w ⟨s0, s1, s2, s3⟩
                go_simp
              simp only [Act.put, List.setIfInBounds_toArray, List.set_cons_succ, List.set_cons_zero]
              refine wpAnyT_take (i := 11) (v := .int .i64 (c + 1)) (by decide) rfl (by kernel_rfl) (by kernel_rfl) (by kernel_rfl) (by kernel_rfl) (fun _ _ _ h => h) HS (Or.inl ⟨by rfl, ?_⟩) ?_
              · rintro w ⟨s0, s1, s2, s3⟩
                go_simp
              simp only [Act.put, List.setIfInBounds_toArray, List.set_cons_succ, List.set_cons_zero]
              refine wpAnyT_one (i := 12) (by kernel_rfl) rfl ?_
              go_wp2_with fail
              refine wpAnyT_one (i := 13) (by kernel_rfl) rfl ?_
              go_wp2_with fail
              refine ⟨HS2, ?_⟩
              refine wpAnyT_drop (k := 14) (by decide) rfl (by kernel_rfl) ?_
              simp only [List.drop_succ_cons, List.drop_zero]
              go_wp2_with fail
              gi_wp2_with fail
              go_roundw
              case rel =>
                exact ⟨k + 1, by omega, by go_num, HM2.out, grownBy_trans hgr (grownBy_trans (World.grownBy.but (grownBy_of HGZ.out) _) HGR.out)⟩
              case measure => simp [intOf]; omega
            · obtain rfl : k = l.gs.length := by omega
              gi_wp2_with fail
              have hfl : (pre ++ [x]).filter (okL l) = pre.filter (okL l) ++ [x] := by rw [List.filter_append]; simp [HR.out]
              have hgrk : ∀ k, k < w3.heap.size + 5 → k ≠ w1.heap.size + 1 → k ≠ w1.heap.size → wr.heap[k]? = W.heap[k]? := fun k h1 h2 h3 =>
                (hgr.block k (by have := K8.out.size; have := hb5.size; omega) (fun e => h3 (by injection e))).trans ((B8.out k h1 h2).trans (hb5.block k (by omega)))
              have hlow : Below w.heap.size W wr := ⟨hgr.os.trans (K8.out.os.trans hb5.os), hgr.tape.trans (K8.out.tape.trans hb5.tape), hgr.output.trans (K8.out.output.trans hb5.output), Nat.le_trans hb5.size (Nat.le_trans K8.out.size hgr.size), fun k hk => hgrk k (by omega) (by omega) (by omega)⟩
              refine ⟨⟨hlow, hgrk _ (by omega) (by omega) (by omega), fun k h1 h2 => hgrk k (by omega) (by omega) (by omega)⟩, ?_⟩
              refine ⟨HGH.out _ _ _ _ hgr (by omega) E3.out, HGH.out _ _ _ _ hgr (by omega) E2.out, ⟨_, HGH.out _ _ _ _ hgr (by omega) E0.out, ?_⟩, ?_, Below.trans HI.out.g hlow⟩
              · rw [hfl]
                exact own_block E1.out (fun k hk => hgr.block k (own_lt E1.out k hk) (fun e => by have := own_base E1.out k hk; injection e with e; omega))
              · rw [hfl, ← midF_all]
                exact hM.mono (by simp; omega)
      case done =>
        rintro W hI hK
        obtain ⟨tv, hwk, hot⟩ := hI.wk
        obtain ⟨At, ct, rfl, -, -⟩ := OwnT.row hot
        have d0 : W.cell? ⟨w1.heap.size + 1 + 1, 0, none⟩ = some (ptr (w1.heap.size + 1)) := hI.p.cell 0 rfl
        have d1 : W.cell? ⟨w1.heap.size + 1, 4, none⟩ = some (.slice At (truthsL l).length ct) := hwk.cell 4 rfl
        have hT := (Turn.putObj (n1 := w3.heap.size) W (by have := (Array.getElem?_eq_some_iff.1 hK).1; omega) (by omega : w3.heap.size ≤ w3.heap.size ∧ w3.heap.size < w3.heap.size + 5) (.deferred none))
        have hI2 := Lib.hid (hI.turn hw1 (by omega) hT)
        by_cases ht : truthsL l = []
        · have hl0 : (truthsL l).length = 0 := by rw [ht]; rfl
          rw [hl0] at d1
          have HE := Lib.hid (show askErr l true = 11 by unfold askErr; rw [if_pos HF.out, if_pos rfl, if_pos ht])
          gi_wp2_with fail
          go_wp2_with fail
          refine ⟨by simp, .inl ⟨_, _, rfl, run_takeDeferred hK, ?_⟩⟩
          exact ⟨.tuple #[.pointer none, .int .i64 11], by simp [results, Try.results74, go_sem], hI2.out.g, .inl ⟨by rw [HE.out]; omega, by rw [HE.out]⟩⟩
        · have hl0 : ((truthsL l).length : Int) ≠ 0 := by
            intro e
            exact ht (List.eq_nil_of_length_eq_zero (by omega))
          have HE := Lib.hid (show askErr l true = 0 by unfold askErr; rw [if_pos HF.out, if_pos rfl, if_neg ht])
          gi_wp2_with fail
          go_wp2_with fail
          refine ⟨by simp, .inl ⟨_, _, rfl, run_takeDeferred hK, ?_⟩⟩
          obtain ⟨tv2, hwk2, hot2⟩ := hI2.out.wk
          exact ⟨.tuple #[ptr (w1.heap.size + 1), .int .i64 0], by simp [results, Try.results74, go_sem], hI2.out.g, .inr ⟨HE.out, _, rfl, ⟨_, _, _, hwk2, own_lower hot2 (by omega), hI2.out.m⟩, by omega⟩⟩
  · have HE := Lib.hid (show askErr l fine = fault l by unfold askErr; rw [if_neg hf])
    gi_wp2_with (refine ⟨trivial, ?_⟩; gi_at_call 58; refine (callsIn_wide.2 (hck _ ((G.refl _).alloc _))).mono ?_; rintro e w1 ⟨rfl, hb1⟩)
    exact ⟨.tuple #[.pointer none, .int .i64 (fault l)], by simp [results, Try.results74, go_sem], ((G.refl _).alloc _).trans hb1, .inl ⟨by rw [HE.out]; exact hf, by rw [HE.out]⟩⟩
end Go.Proofs.Ytogdhkecpjndlaa.C
