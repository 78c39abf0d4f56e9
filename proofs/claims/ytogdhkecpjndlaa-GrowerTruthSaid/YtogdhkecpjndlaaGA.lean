/- Texts joined: P0 C0 A0 C1 C2 C3 C4 C5. -/
import Derived.Test.YtogdhkecpjndlaaProg
import Derived.Tactics
import Derived.Tactics2
import Derived.WalkKit
import Derived.WalkSpells
import Derived.WalkLawsBesides
import Derived.StillTactics
import Derived.OwnWalk
import Derived.Deep.RegionHeld3
import Derived.Deep.AppendLies
import Derived.Deep.QuietTactic
import Derived.Deep.LoopGhost
import Derived.Deep.DeepCutAuto
import Derived.Deep.DeepMust
import Derived.Deep.DeepFit
import Derived.Maps.AppendAt
import Derived.BigQuiet
import Derived.Outline
import Derived.KernelRfl
import Derived.Below
import Derived.Lib.Hide
set_option linter.unusedSimpArgs false
set_option linter.unusedVariables false
/- Plain definitions: ledgers, counts, what is valid, and what the chapter's words mean, over numbers and lists. No program in sight. -/
namespace Go.Proofs.Ytogdhkecpjndlaa.C

/-- A grower (advance, bundles from lo to hi) or a claim (grower, due from lo to hi). -/
structure T3 where
  a : Int
  lo : Int
  hi : Int
  deriving Inhabited

structure Led where
  lo : Int
  hi : Int
  gs : List T3
  cs : List T3

/-- A count: the rate, the numbers of bundles. -/
structure Cn where
  r : Int
  bs : List Int
  deriving Inhabited

def inB (n lo hi : Int) : Bool := decide (lo ≤ n) && decide (n ≤ hi)
def isB (lo hi a b : Int) : Bool := decide (a ≤ lo) && (decide (lo ≤ hi) && decide (hi ≤ b))
def okG (g : T3) : Bool := inB g.a 0 999 && isB g.lo g.hi 0 9
def okC (n : Int) (c : T3) : Bool := inB c.a 0 (n - 1) && isB c.lo c.hi (-999) 999
def sz (g : T3) : Int := g.hi - g.lo + 1
def many (cap acc : Int) : List T3 → Int
  | [] => acc
  | g :: gs => many cap (min cap (acc * sz g)) gs
def fault (l : Led) : Int :=
  if 4 < l.gs.length ∨ 5 < l.cs.length then 3
  else if isB l.lo l.hi 0 30 = false ∨ l.gs.all okG = false ∨ l.cs.all (okC l.gs.length) = false then 1
  else if 2000 < many 3000 (l.hi - l.lo + 1) l.gs then 3 else 0

/-- What is known of a ledger without error. -/
structure Valid (l : Led) : Prop where
  ng : l.gs.length ≤ 4
  nc : l.cs.length ≤ 5
  r0 : 0 ≤ l.lo
  r1 : l.lo ≤ l.hi
  r2 : l.hi ≤ 30
  g : ∀ g ∈ l.gs, 0 ≤ g.a ∧ g.a ≤ 999 ∧ 0 ≤ g.lo ∧ g.lo ≤ g.hi ∧ g.hi ≤ 9
  c : ∀ c ∈ l.cs, 0 ≤ c.a ∧ c.a < l.gs.length ∧ -999 ≤ c.lo ∧ c.lo ≤ c.hi ∧ c.hi ≤ 999
  m : many 3000 (l.hi - l.lo + 1) l.gs ≤ 2000

theorem inB_iff {n lo hi : Int} : inB n lo hi = true ↔ lo ≤ n ∧ n ≤ hi := by simp [inB]
theorem isB_iff {lo hi a b : Int} : isB lo hi a b = true ↔ a ≤ lo ∧ lo ≤ hi ∧ hi ≤ b := by simp [isB]
theorem okG_iff {g : T3} : okG g = true ↔ (0 ≤ g.a ∧ g.a ≤ 999) ∧ 0 ≤ g.lo ∧ g.lo ≤ g.hi ∧ g.hi ≤ 9 := by simp [okG, inB_iff, isB_iff]
theorem okC_iff {n : Int} {c : T3} : okC n c = true ↔ (0 ≤ c.a ∧ c.a ≤ n - 1) ∧ -999 ≤ c.lo ∧ c.lo ≤ c.hi ∧ c.hi ≤ 999 := by simp [okC, inB_iff, isB_iff]

theorem valid_of {l : Led} (h : fault l = 0) : Valid l := by
  unfold fault at h
  split at h
  · simp at h
  · rename_i h1
    split at h
    · simp at h
    · rename_i h2
      split at h
      · simp at h
      · rename_i h3
        simp only [not_or, Bool.not_eq_false] at h1 h2
        obtain ⟨a, b, c⟩ := h2
        have a' := isB_iff.1 a
        refine ⟨by omega, by omega, a'.1, a'.2.1, a'.2.2, fun g hg => ?_, fun c' hc => ?_, by omega⟩
        · have := okG_iff.1 (List.all_eq_true.1 b g hg)
          omega
        · have := okC_iff.1 (List.all_eq_true.1 c c' hc)
          omega

/-- What a grower is owed. -/
def Cn.b (c : Cn) (i : Nat) : Int := c.bs.getD i 0
def Led.adv (l : Led) (i : Nat) : Int := (l.gs.getD i default).a
def owed (l : Led) (c : Cn) (g : Nat) : Int := c.r * c.b g - l.adv g
def rightC (l : Led) (c : Cn) (x : T3) : Bool := inB (owed l c x.a.toNat) x.lo x.hi
/-- What is known of a count of a ledger. -/
structure CntOk (l : Led) (c : Cn) : Prop where
  len : c.bs.length = l.gs.length
  r0 : 0 ≤ c.r
  r1 : c.r ≤ 30
  b : ∀ b ∈ c.bs, 0 ≤ b ∧ b ≤ 9
theorem CntOk.at {l : Led} {c : Cn} (h : CntOk l c) (g : Nat) : 0 ≤ c.b g ∧ c.b g ≤ 9 := by
  rw [Cn.b, List.getD_eq_getElem?_getD]
  cases hx : c.bs[g]? with
  | none => simp
  | some x =>
    have := h.b x (List.mem_of_getElem? hx)
    simp; omega
theorem Valid.at {l : Led} (h : Valid l) (g : Nat) : 0 ≤ l.adv g ∧ l.adv g ≤ 999 := by
  rw [Led.adv, List.getD_eq_getElem?_getD]
  cases hx : l.gs[g]? with
  | none => simp [default, instInhabitedT3.default]
  | some x =>
    have := h.g x (List.mem_of_getElem? hx)
    simp; omega
theorem Led.adv_eq {l : Led} {g : Nat} (hg : g < l.gs.length) : l.adv g = l.gs[g].a := by simp [Led.adv, List.getD, List.getElem?_eq_getElem hg]
theorem mul_bd {a b A B : Int} (h0 : 0 ≤ a) (h1 : a ≤ A) (h2 : 0 ≤ b) (h3 : b ≤ B) : 0 ≤ a * b ∧ a * b ≤ A * B :=
  ⟨Int.mul_nonneg h0 h2, Int.mul_le_mul h1 h3 h2 (by omega)⟩
theorem owed_bd {l : Led} {c : Cn} (h : Valid l) (k : CntOk l c) (g : Nat) : -999 ≤ owed l c g ∧ owed l c g ≤ 270 := by
  have h1 := h.at g
  have h2 := k.at g
  have h3 := mul_bd k.r0 k.r1 h2.1 h2.2
  unfold owed
  omega
def dues (l : Led) (c : Cn) : List Int := (List.range l.gs.length).map (owed l c)
def pos (n : Int) : Int := if n < 0 then 0 else n
def total (ds : List Int) : Int := (ds.map pos).sum

def okBs : List Int → List T3 → Bool
  | b :: bs, g :: gs => inB b g.lo g.hi && okBs bs gs
  | _, _ => true
theorem okBs_nil (gs : List T3) : okBs [] gs = true := by cases gs <;> rfl
def isCnt (l : Led) (x : Cn) : Bool := inB x.r l.lo l.hi && (decide (x.bs.length = l.gs.length) && okBs x.bs l.gs)
theorem okBs_at : ∀ (bs : List Int) (gs : List T3) (k : Nat) (h1 : k < bs.length) (h2 : k < gs.length), okBs bs gs = true → inB bs[k] gs[k].lo gs[k].hi = true
  | b :: bs, g :: gs, 0, _, _, h => by simp [okBs] at h; exact h.1
  | b :: bs, g :: gs, k + 1, h1, h2, h => by
    simp [okBs] at h
    exact okBs_at bs gs k (by simpa using h1) (by simpa using h2) h.2
theorem cntOk_of {l : Led} {x : Cn} (hV : Valid l) (h : isCnt l x = true) : CntOk l x := by
  simp only [isCnt, Bool.and_eq_true, decide_eq_true_eq] at h
  obtain ⟨h0, h1, h2⟩ := h
  have := inB_iff.1 h0
  refine ⟨h1, by have := hV.r0; omega, by have := hV.r2; omega, fun b hb => ?_⟩
  obtain ⟨k, hk, rfl⟩ := List.getElem_of_mem hb
  have h3 := inB_iff.1 (okBs_at x.bs l.gs k hk (by omega) h2)
  have h4 := hV.g l.gs[k] (List.getElem_mem (by omega))
  omega

/-- The first place of a number in a list, counted from k on; -1 if there is none. -/
def idx (v : Int) : List Int → Int → Int
  | [], _ => -1
  | x :: xs, k => if v = x then k else idx v xs (k + 1)
def minL : Int → List Int → Int
  | m, [] => m
  | m, x :: xs => minL (if x < m then x else m) xs
def maxL : Int → List Int → Int
  | m, [] => m
  | m, x :: xs => maxL (if m < x then x else m) xs
def totalFrom : Int → List Int → Int
  | n, [] => n
  | n, d :: ds => totalFrom (n + pos d) ds

/-- The first place at which something does not pass, counted from k on; -1 if there is none. -/
def idxNot (p : T3 → Bool) : List T3 → Int → Int
  | [], _ => -1
  | x :: xs, k => if p x = true then idxNot p xs (k + 1) else k
theorem idxNot_all (p : T3 → Bool) : ∀ (xs : List T3) (k : Int), 0 ≤ k → decide (0 ≤ idxNot p xs k) = !(xs.all p)
  | [], k, _ => by simp [idxNot]
  | x :: xs, k, h => by
    rw [idxNot]
    by_cases hp : p x = true
    · rw [if_pos hp, idxNot_all p xs (k + 1) (by omega)]
      simp [hp]
    · rw [if_neg hp]
      simp [hp, h]
/-- Whether there are too many counts does not hang on where the counting stops. -/
theorem many_cap : ∀ (gs : List T3) (a b : Int), (∀ g ∈ gs, 1 ≤ sz g) → 0 ≤ a → 0 ≤ b → (a = b ∨ 2000 < a ∧ 2000 < b) → (2000 < many 2001 a gs ↔ 2000 < many 3000 b gs)
  | [], a, b, _, _, _, h => by simp only [many]; omega
  | g :: gs, a, b, hs, h0, h1, h => by
    have hg := hs g (by simp)
    have ha := Int.mul_nonneg h0 (show 0 ≤ sz g by omega)
    have hb := Int.mul_nonneg h1 (show 0 ≤ sz g by omega)
    simp only [many]
    refine many_cap gs _ _ (fun x hx => hs x (by simp [hx])) (by omega) (by omega) ?_
    rcases h with rfl | ⟨ha2, hb2⟩
    · omega
    · have h3 : a * 1 ≤ a * sz g := Int.mul_le_mul_of_nonneg_left hg h0
      have h4 : b * 1 ≤ b * sz g := Int.mul_le_mul_of_nonneg_left hg h1
      omega

end Go.Proofs.Ytogdhkecpjndlaa.C

/- Words of the session's own for the walks: what is known of slices that are read, of slices that the call makes, of worlds that have only grown. -/
namespace Go.Proofs.Ytogdhkecpjndlaa.C
open Go.RowKit

/-- The world has grown: whatever lay lies as it lay. -/
abbrev G (w w' : World) : Prop := Below w.heap.size w w'
theorem G.refl (w : World) : G w w := Below.refl _ _
theorem G.trans {a b c : World} (h : G a b) (k : G b c) : G a c := Below.trans h (k.mono h.size)
theorem G.alloc {a b : World} (h : G a b) (o : Obj) : G a (b.alloc o) := Below.alloc h h.size o
theorem G.drew {a b : World} (h : G a b) : G a b.drew := Below.drew h
theorem G.drewN {a b : World} (h : G a b) (n : Nat) : G a (b.drewN n) := ⟨h.os, h.tape, h.output, h.size, h.block⟩
theorem G.cell {w w1 : World} (h : G w w1) {a : Addr} {v : Value} (hc : w.cell? a = some v) : w1.cell? a = some v := (Below.cell h (World.block_lt_of_cell? w a hc)).trans hc
theorem G.frozen {w w1 : World} (h : G w w1) {a : Addr} {b : Bool} (hlt : a.block < w.heap.size) (hc : w.frozen? a = b) : w1.frozen? a = b := (Below.frozen h hlt).trans hc
theorem cell_lt {w : World} {b o : Nat} {v : Value} (h : w.cell? ⟨b, o, none⟩ = some v) : b < w.heap.size := World.block_lt_of_cell? w _ h
theorem newCell (w : World) (c : Array Value) (t : TypeId) (i : Nat) {v : Value} (h : c[i]? = some v) : (w.alloc (.cells c t)).cell? ⟨w.heap.size, i, none⟩ = some v :=
  (World.cell?_alloc_new w c t i).trans h

theorem ncell {w : World} {c : Array Value} {t : TypeId} {n i : Nat} {v : Value} (hn : n = w.heap.size) (h : c[i]? = some v) : (w.alloc (.cells c t)).cell? ⟨n, i, none⟩ = some v := by
  subst hn; exact newCell w c t i h
theorem boxes1 {w W : World} {c1 : Array Value} {t1 : TypeId} (h : w.alloc (.cells c1 t1) = W) : G w W ∧ (∀ i v, c1[i]? = some v → W.cell? ⟨w.heap.size, i, none⟩ = some v) := by
  subst h; exact ⟨(G.refl _).alloc _, fun i v h => newCell _ _ _ _ h⟩
theorem boxes2 {w W : World} {c1 c2 : Array Value} {t1 t2 : TypeId} (h : (w.alloc (.cells c1 t1)).alloc (.cells c2 t2) = W) :
    G w W ∧ (∀ i v, c1[i]? = some v → W.cell? ⟨w.heap.size, i, none⟩ = some v) ∧ (∀ i v, c2[i]? = some v → W.cell? ⟨w.heap.size + 1, i, none⟩ = some v) := by
  subst h; exact ⟨((G.refl _).alloc _).alloc _, fun i v h => ((G.refl _).alloc _).cell (newCell _ _ _ _ h), fun i v h => ncell (by simp) h⟩
theorem boxes3 {w W : World} {c1 c2 c3 : Array Value} {t1 t2 t3 : TypeId} (h : ((w.alloc (.cells c1 t1)).alloc (.cells c2 t2)).alloc (.cells c3 t3) = W) :
    G w W ∧ (∀ i v, c1[i]? = some v → W.cell? ⟨w.heap.size, i, none⟩ = some v) ∧ (∀ i v, c2[i]? = some v → W.cell? ⟨w.heap.size + 1, i, none⟩ = some v) ∧ (∀ i v, c3[i]? = some v → W.cell? ⟨w.heap.size + 1 + 1, i, none⟩ = some v) := by
  subst h
  exact ⟨(((G.refl _).alloc _).alloc _).alloc _, fun i v h => (((G.refl _).alloc _).alloc _).cell (newCell _ _ _ _ h), fun i v h => ((G.refl _).alloc _).cell (ncell (by simp) h), fun i v h => ncell (by simp) h⟩

/-- A block of the call's own, known whole. -/
def Blk (w : World) (g : Nat) (t : TypeId) (cs : Array Value) : Prop := w.heap[g]? = some (.cells cs t (0, 0))
theorem Blk.cell {w : World} {g : Nat} {t : TypeId} {cs : Array Value} (h : Blk w g t cs) (i : Nat) {v : Value} (hv : cs[i]? = some v) : w.cell? ⟨g, i, none⟩ = some v := (cell_of_row w g i cs t (0, 0) h).trans hv
theorem Blk.frozen {w : World} {g : Nat} {t : TypeId} {cs : Array Value} (h : Blk w g t cs) (i : Nat) : w.frozen? ⟨g, i, none⟩ = false := by
  have h' : w.heap[g]? = some (.cells cs t (0, 0)) := h
  simp [World.frozen?, h']
theorem Blk.lt {w : World} {g : Nat} {t : TypeId} {cs : Array Value} (h : Blk w g t cs) : g < w.heap.size := (Array.getElem?_eq_some_iff.1 h).1
theorem Blk.grow {w w1 : World} {g : Nat} {t : TypeId} {cs : Array Value} (h : Blk w g t cs) (hb : G w w1) : Blk w1 g t cs := (hb.block g h.lt).trans h
theorem Blk.grown {w w1 : World} {g : Nat} {t : TypeId} {cs : Array Value} {row : Option Nat} (h : Blk w g t cs) (hb : w.grownBy w1 row) (hne : some g ≠ row) : Blk w1 g t cs := (hb.block g h.lt hne).trans h
theorem Blk.set {w : World} {g : Nat} {t : TypeId} {cs : Array Value} (h : Blk w g t cs) (i : Nat) (u : Value) : Blk (w.setCell ⟨g, i, none⟩ u) g t (cs.setIfInBounds i u) := by
  have h' : w.heap[g]? = some (.cells cs t (0, 0)) := h
  unfold Blk
  simp only [World.setCell, Array.getElem?_modify, if_pos, h']
  simp
theorem Blk.far {w : World} {g : Nat} {t : TypeId} {cs : Array Value} (h : Blk w g t cs) {p : Addr} (hp : g ≠ p.block) (u : Value) : Blk (w.setCell p u) g t cs :=
  (Below.heap_setCell w p u g hp).trans h
theorem Blk.new (w : World) (cs : Array Value) (t : TypeId) : Blk (w.alloc (.cells cs t)) w.heap.size t cs := heap_alloc_new _ _
theorem Blk.new' {w : World} {cs : Array Value} {t : TypeId} {n : Nat} (h : n = w.heap.size) : Blk (w.alloc (.cells cs t)) n t cs := by subst h; exact heap_alloc_new _ _
theorem G.setCell {a b : World} (h : G a b) {p : Addr} (hp : a.heap.size ≤ p.block) (u : Value) : G a (b.setCell p u) := Below.setCell h hp u

/-! ### Slices that are read -/
def RowI (w : World) (A : Option Addr) (xs : List Int) : Prop :=
  ∀ j x, xs[j]? = some x → ∃ b off, A = some ⟨b, off, none⟩ ∧ w.cell? ⟨b, off + j, none⟩ = some (.int .i64 x)
def Row2 (w : World) (A : Option Addr) (gs : List (Int × Int)) : Prop :=
  ∀ j g, gs[j]? = some g → ∃ b off, A = some ⟨b, off, none⟩ ∧ w.cell? ⟨b, off + j * 2, none⟩ = some (.int .i64 g.1) ∧ w.cell? ⟨b, off + j * 2 + 1, none⟩ = some (.int .i64 g.2)
def Row3 (w : World) (A : Option Addr) (gs : List T3) : Prop :=
  ∀ j g, gs[j]? = some g → ∃ b off, A = some ⟨b, off, none⟩ ∧ w.cell? ⟨b, off + j * 3, none⟩ = some (.int .i64 g.a) ∧ w.cell? ⟨b, off + j * 3 + 1, none⟩ = some (.int .i64 g.lo) ∧ w.cell? ⟨b, off + j * 3 + 2, none⟩ = some (.int .i64 g.hi)
/-- A slice of counts of the reference: each one's rate, and its slice of bundles. -/
def RowC (w : World) (A : Option Addr) (cs : List Cn) : Prop :=
  ∀ j c, cs[j]? = some c → ∃ b off B cap, A = some ⟨b, off, none⟩ ∧ w.cell? ⟨b, off + j * 2, none⟩ = some (.int .i64 c.r) ∧ w.cell? ⟨b, off + j * 2 + 1, none⟩ = some (.slice B c.bs.length cap) ∧ c.bs.length ≤ cap ∧ RowI w B c.bs

section
variable {w w1 : World} {A : Option Addr}
theorem RowI.grow {xs : List Int} (h : RowI w A xs) (hb : G w w1) : RowI w1 A xs := fun j x hj => by
  obtain ⟨b, off, e, h0⟩ := h j x hj
  exact ⟨b, off, e, hb.cell h0⟩
theorem Row2.grow {xs : List (Int × Int)} (h : Row2 w A xs) (hb : G w w1) : Row2 w1 A xs := fun j x hj => by
  obtain ⟨b, off, e, h0, h1⟩ := h j x hj
  exact ⟨b, off, e, hb.cell h0, hb.cell h1⟩
theorem Row3.grow {xs : List T3} (h : Row3 w A xs) (hb : G w w1) : Row3 w1 A xs := fun j x hj => by
  obtain ⟨b, off, e, h0, h1, h2⟩ := h j x hj
  exact ⟨b, off, e, hb.cell h0, hb.cell h1, hb.cell h2⟩
theorem RowC.grow {xs : List Cn} (h : RowC w A xs) (hb : G w w1) : RowC w1 A xs := fun j x hj => by
  obtain ⟨b, off, B, cap, e, h0, h1, h2, h3⟩ := h j x hj
  exact ⟨b, off, B, cap, e, hb.cell h0, hb.cell h1, h2, h3.grow hb⟩
theorem RowI.at {xs : List Int} (h : RowI w A xs) {j : Nat} (hj : j < xs.length) : ∃ b off, A = some ⟨b, off, none⟩ ∧ w.cell? ⟨b, off + j, none⟩ = some (.int .i64 xs[j]) := h j _ (List.getElem?_eq_getElem hj)
theorem Row2.at {xs : List (Int × Int)} (h : Row2 w A xs) {j : Nat} (hj : j < xs.length) : ∃ b off, A = some ⟨b, off, none⟩ ∧ w.cell? ⟨b, off + j * 2, none⟩ = some (.int .i64 xs[j].1) ∧ w.cell? ⟨b, off + j * 2 + 1, none⟩ = some (.int .i64 xs[j].2) := h j _ (List.getElem?_eq_getElem hj)
theorem Row3.at {xs : List T3} (h : Row3 w A xs) {j : Nat} (hj : j < xs.length) : ∃ b off, A = some ⟨b, off, none⟩ ∧ w.cell? ⟨b, off + j * 3, none⟩ = some (.int .i64 xs[j].a) ∧ w.cell? ⟨b, off + j * 3 + 1, none⟩ = some (.int .i64 xs[j].lo) ∧ w.cell? ⟨b, off + j * 3 + 2, none⟩ = some (.int .i64 xs[j].hi) := h j _ (List.getElem?_eq_getElem hj)
theorem RowC.at {xs : List Cn} (h : RowC w A xs) {j : Nat} (hj : j < xs.length) : ∃ b off B cap, A = some ⟨b, off, none⟩ ∧ w.cell? ⟨b, off + j * 2, none⟩ = some (.int .i64 xs[j].r) ∧ w.cell? ⟨b, off + j * 2 + 1, none⟩ = some (.slice B xs[j].bs.length cap) ∧ xs[j].bs.length ≤ cap ∧ RowI w B xs[j].bs := h j _ (List.getElem?_eq_getElem hj)
theorem RowI.nil : RowI w A [] := fun j x h => by simp at h
theorem Row2.nil : Row2 w A [] := fun j x h => by simp at h
theorem Row3.nil : Row3 w A [] := fun j x h => by simp at h
theorem RowC.nil : RowC w A [] := fun j x h => by simp at h
end

theorem ret_i {k : IntKind} {a b : Int} (h : a = b) : Ending.returned (.int k a) = .returned (.int k b) := by rw [h]
theorem ret_b {a b : Bool} (h : a = b) : Ending.returned (.bool a) = .returned (.bool b) := by rw [h]
theorem quiet_left {P : Program} {f : FuncId} {args : Array Value} {w : World} {n : Nat} {v : Value}
    (h : Calls P f args (w.drewN n) fun e w' => e = .returned v ∧ w.drewN n = w') : Calls P f args (w.drewN n) fun e w'' => e = .returned v ∧ ∃ m, w'' = w.drewN m :=
  h.mono fun _ _ ⟨he, hm⟩ => ⟨he, n, hm.symm⟩
theorem quiet_add_left {P : Program} {f : FuncId} {args : Array Value} {w : World} {a n : Nat} {v : Value}
    (h : Calls P f args (w.drewN (a + n)) fun e w' => e = .returned v ∧ w.drewN (a + n) = w') :
    Calls P f args (w.drewN (a + n)) fun e w'' => e = .returned v ∧ ∃ m, w'' = w.drewN (a + m) :=
  h.mono fun _ _ ⟨he, hm⟩ => ⟨he, n, hm.symm⟩
theorem wrap_in {x : Int} (h : -9223372036854775808 ≤ x ∧ x ≤ 9223372036854775807) : wrap64 x = x := by unfold wrap64; omega

end Go.Proofs.Ytogdhkecpjndlaa.C

/- Slices that the call itself makes, and append to them: what the session's walks use of the library's laws. -/
namespace Go.Proofs.Ytogdhkecpjndlaa.C
open Go.RowKit

/-- A slice of the call's own, of cells of one type. -/
abbrev Own (e : TypeId) (size : Nat) (base : Nat) (w : World) (v : Value) (n : Nat) (cs : List Value) : Prop := w.ownsRow base e size v n cs
def ints (xs : List Int) : List Value := xs.map (Value.int .i64)
def OwnI (base : Nat) (w : World) (v : Value) (xs : List Int) : Prop := w.ownsRow base 3 1 v xs.length (ints xs)
/-- Cells of a list of threes, of pairs. -/
def cells3 : List T3 → List Value
  | [] => []
  | g :: gs => .int .i64 g.a :: .int .i64 g.lo :: .int .i64 g.hi :: cells3 gs
def cells2 : List (Int × Int) → List Value
  | [] => []
  | g :: gs => .int .i64 g.1 :: .int .i64 g.2 :: cells2 gs
def Own3 (e : TypeId) (base : Nat) (w : World) (v : Value) (xs : List T3) : Prop := w.ownsRow base e 3 v xs.length (cells3 xs)
def Own2 (e : TypeId) (base : Nat) (w : World) (v : Value) (xs : List (Int × Int)) : Prop := w.ownsRow base e 2 v xs.length (cells2 xs)

theorem own_base {w : World} {base e size n : Nat} {v : Value} {cs : List Value} (h : w.ownsRow base e size v n cs) : ∀ k, v.ownBlock = some k → base ≤ k := fun k hk => (h.lt k hk).1
theorem own_lt {w : World} {base e size n : Nat} {v : Value} {cs : List Value} (h : w.ownsRow base e size v n cs) : ∀ k, v.ownBlock = some k → k < w.heap.size := fun k hk => (h.lt k hk).2
theorem own_grow {w w1 : World} {base e size n : Nat} {v : Value} {cs : List Value} (h : w.ownsRow base e size v n cs) (hb : G w w1) : w1.ownsRow base e size v n cs :=
  h.kept (row := none) ⟨hb.os, hb.tape, hb.output, hb.size, fun i hi _ => hb.block i hi⟩ (by cases v.ownBlock <;> simp)
theorem own_lower {w : World} {base base' e size n : Nat} {v : Value} {cs : List Value} (h : w.ownsRow base e size v n cs) (hb : base' ≤ base) : w.ownsRow base' e size v n cs := by
  refine ⟨h.1, ?_⟩
  rcases h.2 with hn | ⟨g, cap, cur, h1, h2, rest⟩
  · exact .inl hn
  · exact .inr ⟨g, cap, cur, h1, Nat.le_trans hb h2, rest⟩
theorem OwnI.grow {w w1 : World} {base : Nat} {v : Value} {xs : List Int} (h : OwnI base w v xs) (hb : G w w1) : OwnI base w1 v xs := own_grow h hb
theorem OwnI.lower {w : World} {base base' : Nat} {v : Value} {xs : List Int} (h : OwnI base w v xs) (hb : base' ≤ base) : OwnI base' w v xs := own_lower h hb
theorem OwnI.base {w : World} {base : Nat} {v : Value} {xs : List Int} (h : OwnI base w v xs) : ∀ k, v.ownBlock = some k → base ≤ k := own_base h
theorem OwnI.nil (w : World) (base : Nat) : OwnI base w (.slice none 0 0) [] := World.ownsRow_nil _ _ _ _

theorem G.grown {a b c : World} {row : Option Nat} (h : G a b) (hg : b.grownBy c row) (hr : ∀ k, row = some k → a.heap.size ≤ k) : G a c := Below.grown h hg h.size hr

/-- What is owned is read: the value's form, its cells. -/
theorem own_form {w : World} {base e size n : Nat} {v : Value} {cs : List Value} (h : w.ownsRow base e size v n cs) :
    ∃ A cap, v = .slice A n cap ∧ n ≤ cap ∧ ∀ j u, cs[j]? = some u → ∃ b, A = some ⟨b, 0, none⟩ ∧ w.cell? ⟨b, 0 + j, none⟩ = some u := by
  rcases h.2 with ⟨rfl, rfl⟩ | ⟨g, cap, cur, rfl, hb, hg, hcap, hmax, hsz, htake⟩
  · refine ⟨none, 0, rfl, Nat.le_refl _, fun j u hj => ?_⟩
    have : cs = [] := List.eq_nil_of_length_eq_zero (by simpa using h.1)
    subst this
    simp at hj
  · refine ⟨_, cap, rfl, hcap, fun j u hj => ⟨g, rfl, ?_⟩⟩
    have hc := h.cells (g := g) rfl j u hj
    have ha : (⟨g, 0, none⟩ : Addr).add j = ⟨g, 0 + j, none⟩ := by unfold Addr.add; split <;> simp_all
    rwa [ha] at hc
theorem OwnI.row {w : World} {base : Nat} {v : Value} {xs : List Int} (h : OwnI base w v xs) : ∃ A cap, v = .slice A xs.length cap ∧ xs.length ≤ cap ∧ RowI w A xs := by
  obtain ⟨A, cap, rfl, hc, hr⟩ := own_form h
  exact ⟨A, cap, rfl, hc, fun j x hj => by
    obtain ⟨b, e, hcell⟩ := hr j (.int .i64 x) (by simp [ints, hj])
    exact ⟨b, 0, e, hcell⟩⟩
theorem cells3_at : ∀ (xs : List T3) (j : Nat) (g : T3), xs[j]? = some g → (cells3 xs)[j * 3]? = some (.int .i64 g.a) ∧ (cells3 xs)[j * 3 + 1]? = some (.int .i64 g.lo) ∧ (cells3 xs)[j * 3 + 2]? = some (.int .i64 g.hi)
  | [], j, g, h => by simp at h
  | x :: xs, 0, g, h => by simp at h; subst h; simp [cells3]
  | x :: xs, j + 1, g, h => by
    have := cells3_at xs j g (by simpa using h)
    rw [show (j + 1) * 3 = j * 3 + 3 by omega]
    exact this
theorem cells2_at : ∀ (xs : List (Int × Int)) (j : Nat) (g : Int × Int), xs[j]? = some g → (cells2 xs)[j * 2]? = some (.int .i64 g.1) ∧ (cells2 xs)[j * 2 + 1]? = some (.int .i64 g.2)
  | [], j, g, h => by simp at h
  | x :: xs, 0, g, h => by simp at h; subst h; simp [cells2]
  | x :: xs, j + 1, g, h => by
    have := cells2_at xs j g (by simpa using h)
    rw [show (j + 1) * 2 = j * 2 + 2 by omega]
    exact this
theorem cells3_append : ∀ (xs ys : List T3), cells3 (xs ++ ys) = cells3 xs ++ cells3 ys
  | [], ys => rfl
  | x :: xs, ys => by simp [cells3, cells3_append xs ys]
theorem cells2_append : ∀ (xs ys : List (Int × Int)), cells2 (xs ++ ys) = cells2 xs ++ cells2 ys
  | [], ys => rfl
  | x :: xs, ys => by simp [cells2, cells2_append xs ys]
theorem Own3.row {e : TypeId} {w : World} {base : Nat} {v : Value} {xs : List T3} (h : Own3 e base w v xs) : ∃ A cap, v = .slice A xs.length cap ∧ xs.length ≤ cap ∧ Row3 w A xs := by
  obtain ⟨A, cap, rfl, hc, hr⟩ := own_form h
  refine ⟨A, cap, rfl, hc, fun j g hj => ?_⟩
  obtain ⟨h0, h1, h2⟩ := cells3_at xs j g hj
  obtain ⟨b, rfl, k0⟩ := hr _ _ h0
  obtain ⟨b1, e1, k1⟩ := hr _ _ h1
  obtain ⟨b2, e2, k2⟩ := hr _ _ h2
  cases e1
  cases e2
  exact ⟨b, 0, rfl, k0, k1, k2⟩
theorem Own2.row {e : TypeId} {w : World} {base : Nat} {v : Value} {xs : List (Int × Int)} (h : Own2 e base w v xs) : ∃ A cap, v = .slice A xs.length cap ∧ xs.length ≤ cap ∧ Row2 w A xs := by
  obtain ⟨A, cap, rfl, hc, hr⟩ := own_form h
  refine ⟨A, cap, rfl, hc, fun j g hj => ?_⟩
  obtain ⟨h0, h1⟩ := cells2_at xs j g hj
  obtain ⟨b, rfl, k0⟩ := hr _ _ h0
  obtain ⟨b1, e1, k1⟩ := hr _ _ h1
  cases e1
  exact ⟨b, 0, rfl, k0, k1⟩

theorem RowI.src {w : World} {A : Option Addr} {xs : List Int} (h : RowI w A xs) (hp : 0 < xs.length) : ∃ ad, A = some ad ∧ ∀ j v, (ints xs)[j]? = some v → w.cell? (ad.add j) = some v := by
  obtain ⟨b, off, rfl, _⟩ := h.at (j := 0) hp
  refine ⟨_, rfl, fun j v hj => ?_⟩
  have ha : (⟨b, off, none⟩ : Addr).add j = ⟨b, off + j, none⟩ := by unfold Addr.add; split <;> simp_all
  rw [ha]
  simp only [ints, List.getElem?_map, Option.map_eq_some_iff] at hj
  obtain ⟨x, hx, rfl⟩ := hj
  obtain ⟨b', off', e, hc⟩ := h j x hx
  cases e
  exact hc

/-! ### append(v, x): the variadic's box lies at 'ad' -/
section
variable {ops : Array Oper} {rest : List Oper} {o : Oper} {a : Act} {Q : Exit → Act → World → Prop} {W : World}
theorem app_cells (t e : TypeId) (z : Value) (size bytes : Nat) (ht : Try.prog.underlying t = some (.slice e)) (hinfo : (Try.prog.info? e).map (fun i => (i.zero, i.size, i.bytes)) = some (some z, size, bytes))
    (hz : z.cells.size = size) (hs0 : 0 < size) (hb1 : bytes ≤ 1000) (base : Nat) (hgd : o.guard = none) (s x : Operand)
    (ho : o.op = .call { callee := .builtin .append, args := #[s, x], argTypes := #[t, t] }) (v : Value) (n : Nat) (xs ys : List Value) (hs : a.eval s = v) (b : Nat)
    (hx : a.eval x = .slice (some ⟨b, 0, none⟩) 1 1) (hys : ys.length = size) (h1 : ∀ u ∈ ys, u.oneCell' = true) (hn : ∀ j u, ys[j]? = some u → W.cell? ⟨b, j, none⟩ = some u)
    (HO : W.ownsRow base e size v n xs) (hbase : base ≤ W.heap.size) (hl : n ≤ 100000000)
    (h : ∀ v1 w1, w1.ownsRow base e size v1 (n + 1) (xs ++ ys) → W.grownBy w1 v.ownBlock → (v1.ownBlock = v.ownBlock ∨ v1.ownBlock = some W.heap.size) → wpList Try.prog ops Q rest (a.put o.dst v1) w1) :
    wpList Try.prog ops Q (o :: rest) a W := by
  obtain ⟨i0, hi, hzz⟩ := Option.map_eq_some_iff.1 hinfo
  simp only [Prod.mk.injEq] at hzz
  obtain ⟨hz0, hz1, hz2⟩ := hzz
  have hm : (n + 1) * bytes ≤ (100000000 + 1) * 1000 := Nat.mul_le_mul (by omega) hb1
  refine wpList_append_own_at W hgd s x t ho base e i0 z size bytes ht hi hz0 hz1 hz2 hz hs0 v n xs hs HO ⟨b, 0, none⟩ 1 1 ys hx (by rw [hys]; simp) (fun j u hj => ?_) h1 (by simp only [maxLen]; omega) (by omega) hbase
    (fun v1 w1 h2 h3 _ h4 => h v1 w1 h2 h3 h4)
  have ha : (⟨b, 0, none⟩ : Addr).add j = ⟨b, j, none⟩ := by unfold Addr.add; split <;> simp_all
  rw [ha]
  exact hn j u hj

theorem info3 : (Try.prog.info? 3).map (fun i => (i.zero, i.size, i.bytes)) = some (some (.int .i64 0), 1, 8) := by kernel_rfl
theorem info110 : (Try.prog.info? 110).map (fun i => (i.zero, i.size, i.bytes)) = some (some (.agg #[(.int .i64 0), (.int .i64 0), (.int .i64 0)]), 3, 24) := by kernel_rfl
theorem info114 : (Try.prog.info? 114).map (fun i => (i.zero, i.size, i.bytes)) = some (some (.agg #[(.int .i64 0), (.int .i64 0), (.int .i64 0)]), 3, 24) := by kernel_rfl
theorem info34 : (Try.prog.info? 34).map (fun i => (i.zero, i.size, i.bytes)) = some (some (.agg #[(.int .i64 0), (.int .i64 0)]), 2, 16) := by kernel_rfl

theorem app_i (base : Nat) (hgd : o.guard = none) (s x : Operand) (ho : o.op = .call { callee := .builtin .append, args := #[s, x], argTypes := #[30, 30] }) (v : Value) (xs : List Int) (y : Int) (hs : a.eval s = v) (b : Nat)
    (hx : a.eval x = .slice (some ⟨b, 0, none⟩) 1 1) (hn : W.cell? ⟨b, 0, none⟩ = some (.int .i64 y)) (HO : OwnI base W v xs) (hbase : base ≤ W.heap.size) (hl : xs.length ≤ 100000000)
    (h : ∀ v1 w1, OwnI base w1 v1 (xs ++ [y]) → W.grownBy w1 v.ownBlock → (v1.ownBlock = v.ownBlock ∨ v1.ownBlock = some W.heap.size) → wpList Try.prog ops Q rest (a.put o.dst v1) w1) :
    wpList Try.prog ops Q (o :: rest) a W :=
  app_cells 30 3 (.int .i64 0) 1 8 Try.underlying30 info3 rfl (by omega) (by omega) base hgd s x ho v xs.length (ints xs) [.int .i64 y] hs b hx rfl (by simp [Value.oneCell'])
    (fun j u hj => by cases j with | zero => simp at hj; subst hj; exact hn | succ j => simp at hj) HO hbase hl
    fun v1 w1 h2 h3 h4 => h v1 w1 (by simpa [OwnI, ints] using h2) h3 h4
end

end Go.Proofs.Ytogdhkecpjndlaa.C

/- The small functions of the program and of the reference: what each returns. -/
namespace Go.Proofs.Ytogdhkecpjndlaa.C
open Go.RowKit
set_option maxRecDepth 10000

theorem within_c (n lo hi : Int) (w : World) : Calls Try.prog 78 #[.int .i64 n, .int .i64 lo, .int .i64 hi] w fun e w' => e = .returned (.bool (inB n lo hi)) ∧ w = w' := by
  by_cases h : lo ≤ n
  all_goals
    go_enter Try.func78, Try.ntmps78
    go_wp2
    go_ret
    exact ⟨by simp [inB, h] <;> omega, rfl⟩

theorem In_c (n lo hi : Int) (w : World) : Calls Try.prog 44 #[.int .i64 n, .int .i64 lo, .int .i64 hi] w fun e w' => e = .returned (.bool (inB n lo hi)) ∧ w = w' := by
  by_cases h : lo ≤ n
  all_goals
    go_enter Try.func44, Try.ntmps44
    go_wp2
    go_ret
    exact ⟨by simp [inB, h] <;> omega, rfl⟩

theorem between_c (lo hi a b : Int) (w : World) : Calls Try.prog 99 #[.agg #[.int .i64 lo, .int .i64 hi], .int .i64 a, .int .i64 b] w fun e w' => e = .returned (.bool (isB lo hi a b)) ∧ G w w' := by
  by_cases h : a ≤ lo <;> by_cases h1 : lo ≤ hi
  all_goals
    go_enter Try.func99, Try.ntmps99
    go_wp2
    go_ret
    exact ⟨by simp [isB, h, h1] <;> omega, (G.refl _).alloc _⟩

theorem Is_c (lo hi a b : Int) (w : World) : Calls Try.prog 120 #[.agg #[.int .i64 lo, .int .i64 hi], .int .i64 a, .int .i64 b] w fun e w' => e = .returned (.bool (isB lo hi a b)) ∧ G w w' := by
  by_cases h : a ≤ lo <;> by_cases h1 : lo ≤ hi
  all_goals
    go_enter Try.func120, Try.ntmps120
    go_wp2
    go_ret
    exact ⟨by simp [isB, h, h1] <;> omega, (G.refl _).alloc _⟩

theorem has_c (lo hi n : Int) (w : World) : Calls Try.prog 115 #[.agg #[.int .i64 lo, .int .i64 hi], .int .i64 n] w fun e w' => e = .returned (.bool (inB n lo hi)) ∧ G w w' := by
  go_enter Try.func115, Try.ntmps115
  go_wp2_with (go_at_call 78; refine (within_c _ _ _ _).mono ?_; rintro e w' ⟨rfl, rfl⟩)
  go_ret
  exact ⟨rfl, (G.refl _).alloc _⟩

theorem size_c (lo hi : Int) (w : World) (h0 : 0 ≤ lo) (h1 : lo ≤ hi) (h2 : hi ≤ 1000) : Calls Try.prog 103 #[.agg #[.int .i64 lo, .int .i64 hi]] w fun e w' => e = .returned (.int .i64 (hi - lo + 1)) ∧ G w w' := by
  go_enter Try.func103, Try.ntmps103
  go_wp2
  go_ret
  exact ⟨by simp, (G.refl _).alloc _⟩

theorem Size_c (lo hi : Int) (w : World) (h0 : 0 ≤ lo) (h1 : lo ≤ hi) (h2 : hi ≤ 1000) : Calls Try.prog 88 #[.agg #[.int .i64 lo, .int .i64 hi]] w fun e w' => e = .returned (.int .i64 (hi - lo + 1)) ∧ G w w' := by
  go_enter Try.func88, Try.ntmps88
  go_wp2
  go_ret
  exact ⟨by simp, (G.refl _).alloc _⟩

theorem valid_c (g : T3) (w : World) : Calls Try.prog 101 #[.agg #[.int .i64 g.a, .int .i64 g.lo, .int .i64 g.hi]] w fun e w' => e = .returned (.bool (okG g)) ∧ G w w' := by
  cases h : inB g.a 0 999
  · go_enter Try.func101, Try.ntmps101
    go_wp2_with (go_at_call 78; refine (within_c _ _ _ _).mono ?_; rintro e w' ⟨rfl, rfl⟩)
    go_ret
    exact ⟨by simp [okG, h], (G.refl _).alloc _⟩
  · go_enter Try.func101, Try.ntmps101
    go_wp2_with (first | (go_at_call 78; refine (within_c _ _ _ _).mono ?_; rintro e w' ⟨rfl, rfl⟩) | (go_at_call 99; refine (between_c _ _ _ _ _).mono ?_; rintro e w' ⟨rfl, hb⟩))
    go_ret
    exact ⟨by simp [okG, h], ((G.refl _).alloc _).trans hb⟩

theorem claim_c (lo hi : Int) (A : Option Addr) (n c : Nat) (C : Value) (x : T3) (w : World) (hn : n ≤ 30) : Calls Try.prog 98 #[.agg #[.int .i64 lo, .int .i64 hi, .slice A n c, C], .agg #[.int .i64 x.a, .int .i64 x.lo, .int .i64 x.hi]] w fun e w' => e = .returned (.bool (okC n x)) ∧ G w w' := by
  cases h : inB x.a 0 (n - 1)
  · go_enter Try.func98, Try.ntmps98
    go_wp2_with (go_at_call 78; refine (within_c _ _ _ _).mono ?_; rintro e w' ⟨rfl, rfl⟩)
    go_ret
    exact ⟨by simp [okC, h], ((G.refl _).alloc _).alloc _⟩
  · go_enter Try.func98, Try.ntmps98
    go_wp2_with (first | (go_at_call 78; refine (within_c _ _ _ _).mono ?_; rintro e w' ⟨rfl, rfl⟩) | (go_at_call 99; refine (between_c _ _ _ _ _).mono ?_; rintro e w' ⟨rfl, hb⟩))
    go_ret
    exact ⟨by simp [okC, h], (((G.refl _).alloc _).alloc _).trans hb⟩

end Go.Proofs.Ytogdhkecpjndlaa.C

/- Loops over lists of numbers; how many counts a ledger has; a ledger's error. -/
namespace Go.Proofs.Ytogdhkecpjndlaa.C
open Go.RowKit
set_option maxRecDepth 10000

theorem Index_c (A : Option Addr) (xs : List Int) (c : Nat) (v : Int) (w : World) (hX : RowI w A xs) (hm : xs.length ≤ 1000000) :
    Calls Try.prog 75 #[.slice A xs.length c, .int .i64 v] w fun e w' => e = .returned (.int .i64 (idx v xs 0)) ∧ w = w' := by
  have HX := Lib.hid hX
  clear hX
  go_enter Try.func75, Try.ntmps75
  go_wp2
  go_loop [8] (fun v8 => ∃ k : Nat, k ≤ xs.length ∧ v8 = .int .i64 k ∧ Hid (idx v (xs.drop k) k = idx v xs 0)) (fun v8 => xs.length - (intOf v8).toNat)
  case atStart => exact ⟨0, by omega, rfl, by simp [Hid]⟩
  case round =>
    obtain ⟨k, hk, rfl, HR⟩ := hrel
    by_cases hlt : k < xs.length
    · obtain ⟨b, off, rfl, d0⟩ := HX.out.at hlt
      have HD := Lib.hid (List.drop_eq_getElem_cons hlt)
      cases he : (v == xs[k])
      · go_wp2
        go_round
        case rel => exact ⟨k + 1, by omega, by go_num, by have h := HR; unfold Hid at h ⊢; rw [HD.out, idx, if_neg (by simpa using he)] at h; exact_mod_cast h⟩
        case measure => simp [intOf]; omega
      · go_wp2
        go_ret
        exact ⟨ret_i (by have h := HR; unfold Hid at h; rw [HD.out, idx, if_pos (by simpa using he)] at h; exact h), rfl⟩
    · go_wp2
      go_ret
      exact ⟨ret_i (by have h := HR; unfold Hid at h; rw [List.drop_eq_nil_of_le (by omega), idx] at h; exact h), rfl⟩

theorem Contains_c (A : Option Addr) (xs : List Int) (c : Nat) (v : Int) (w : World) (hX : RowI w A xs) (hm : xs.length ≤ 1000000) :
    Calls Try.prog 114 #[.slice A xs.length c, .int .i64 v] w fun e w' => e = .returned (.bool (decide (0 ≤ idx v xs 0))) ∧ w = w' := by
  have HX := Lib.hid hX
  clear hX
  go_enter Try.func114, Try.ntmps114
  go_wp2_with (go_at_call 75; refine (Index_c _ _ _ _ _ HX.out hm).mono ?_; rintro e w' ⟨rfl, rfl⟩)
  go_ret
  exact ⟨rfl, rfl⟩

theorem Min_c (A : Option Addr) (x : Int) (xs : List Int) (c : Nat) (w : World) (hX : RowI w A (x :: xs)) (hm : xs.length ≤ 1000000) :
    Calls Try.prog 76 #[.slice A (xs.length + 1) c] w fun e w' => e = .returned (.int .i64 (minL x xs)) ∧ w = w' := by
  have HX := Lib.hid hX
  obtain ⟨b0, off0, rfl, d00⟩ := hX.at (j := 0) (by simp)
  simp only [Nat.add_zero, List.getElem_cons_zero] at d00
  clear hX
  have h1 : ((xs.length : Int) + 1 < 1) = False := by simp; omega
  have h2 : (0 : Int) < (xs.length : Int) + 1 := by omega
  go_enter Try.func76, Try.ntmps76
  go_wp2
  go_loop [3, 4] (fun v3 v4 => ∃ (k : Nat) (m : Int), k ≤ xs.length ∧ v4 = .int .i64 ((k : Int) + 1) ∧ v3 = .int .i64 m ∧ Hid (minL m (xs.drop k) = minL x xs)) (fun _ v4 => xs.length + 1 - (intOf v4).toNat)
  case atStart => exact ⟨0, x, by omega, rfl, rfl, by simp [Hid]⟩
  case round =>
    obtain ⟨k, m, hk, rfl, rfl, HR⟩ := hrel
    by_cases hlt : k < xs.length
    · obtain ⟨b, off, e, d0⟩ := HX.out.at (j := k + 1) (by simp; omega)
      cases e
      simp only [List.getElem_cons_succ] at d0
      have d1 : w.cell? ⟨b0, off0 + ((k : Int) + 1).toNat, none⟩ = some (.int .i64 xs[k]) := by rw [show ((k : Int) + 1).toNat = k + 1 by omega]; exact d0
      have HD := Lib.hid (List.drop_eq_getElem_cons hlt)
      have h3 : (0 : Int) ≤ (k : Int) + 1 := by omega
      go_wp2
      go_round
      case rel => exact ⟨k + 1, _, by omega, by go_num, rfl, by have h := HR; unfold Hid at h ⊢; rw [HD.out, minL] at h; exact h⟩
      case measure => simp [intOf]; omega
    · go_wp2
      go_ret
      exact ⟨ret_i (by have h := HR; unfold Hid at h; rw [List.drop_eq_nil_of_le (by omega), minL] at h; exact h), rfl⟩

theorem Max_c (A : Option Addr) (x : Int) (xs : List Int) (c : Nat) (w : World) (hX : RowI w A (x :: xs)) (hm : xs.length ≤ 1000000) :
    Calls Try.prog 111 #[.slice A (xs.length + 1) c] w fun e w' => e = .returned (.int .i64 (maxL x xs)) ∧ w = w' := by
  have HX := Lib.hid hX
  obtain ⟨b0, off0, rfl, d00⟩ := hX.at (j := 0) (by simp)
  simp only [Nat.add_zero, List.getElem_cons_zero] at d00
  clear hX
  have h1 : ((xs.length : Int) + 1 < 1) = False := by simp; omega
  have h2 : (0 : Int) < (xs.length : Int) + 1 := by omega
  go_enter Try.func111, Try.ntmps111
  go_wp2
  go_loop [3, 4] (fun v3 v4 => ∃ (k : Nat) (m : Int), k ≤ xs.length ∧ v4 = .int .i64 ((k : Int) + 1) ∧ v3 = .int .i64 m ∧ Hid (maxL m (xs.drop k) = maxL x xs)) (fun _ v4 => xs.length + 1 - (intOf v4).toNat)
  case atStart => exact ⟨0, x, by omega, rfl, rfl, by simp [Hid]⟩
  case round =>
    obtain ⟨k, m, hk, rfl, rfl, HR⟩ := hrel
    by_cases hlt : k < xs.length
    · obtain ⟨b, off, e, d0⟩ := HX.out.at (j := k + 1) (by simp; omega)
      cases e
      simp only [List.getElem_cons_succ] at d0
      have d1 : w.cell? ⟨b0, off0 + ((k : Int) + 1).toNat, none⟩ = some (.int .i64 xs[k]) := by rw [show ((k : Int) + 1).toNat = k + 1 by omega]; exact d0
      have HD := Lib.hid (List.drop_eq_getElem_cons hlt)
      have h3 : (0 : Int) ≤ (k : Int) + 1 := by omega
      go_wp2
      go_round
      case rel => exact ⟨k + 1, _, by omega, by go_num, rfl, by have h := HR; unfold Hid at h ⊢; rw [HD.out, maxL] at h; exact h⟩
      case measure => simp [intOf]; omega
    · go_wp2
      go_ret
      exact ⟨ret_i (by have h := HR; unfold Hid at h; rw [List.drop_eq_nil_of_le (by omega), maxL] at h; exact h), rfl⟩

theorem minimum_c (A : Option Addr) (x : Int) (xs : List Int) (c : Nat) (w : World) (hX : RowI w A (x :: xs)) (hm : xs.length ≤ 1000000) :
    Calls Try.prog 85 #[.slice A (xs.length + 1) c] w fun e w' => e = .returned (.int .i64 (minL x xs)) ∧ w = w' := by
  have HX := Lib.hid hX
  clear hX
  go_enter Try.func85, Try.ntmps85
  go_wp2_with (go_at_call 76; refine (Min_c _ _ _ _ _ HX.out hm).mono ?_; rintro e w' ⟨rfl, rfl⟩)
  go_ret
  exact ⟨rfl, rfl⟩

theorem total_c (A : Option Addr) (ds : List Int) (c : Nat) (w : World) (hX : RowI w A ds) (hm : ds.length ≤ 1000) (hb : ∀ d ∈ ds, -1000000 ≤ d ∧ d ≤ 1000000) :
    Calls Try.prog 110 #[.slice A ds.length c] w fun e w' => e = .returned (.int .i64 (totalFrom 0 ds)) ∧ w = w' := by
  have HX := Lib.hid hX
  have HBD := Lib.hid hb
  clear hX hb
  go_enter Try.func110, Try.ntmps110
  go_wp2
  go_loop [2, 7] (fun v2 v7 => ∃ (k : Nat) (n : Int), k ≤ ds.length ∧ v7 = .int .i64 k ∧ v2 = .int .i64 n ∧ 0 ≤ n ∧ n ≤ 1000000 * (k : Int) ∧ Hid (totalFrom n (ds.drop k) = totalFrom 0 ds)) (fun _ v7 => ds.length - (intOf v7).toNat)
  case atStart => exact ⟨0, 0, by omega, rfl, rfl, by omega, by omega, by simp [Hid]⟩
  case round =>
    obtain ⟨k, n, hk, rfl, rfl, hn0, hn1, HR⟩ := hrel
    by_cases hlt : k < ds.length
    · obtain ⟨b, off, rfl, d0⟩ := HX.out.at hlt
      have HD := Lib.hid (List.drop_eq_getElem_cons hlt)
      have hbk := HBD.out ds[k] (List.getElem_mem hlt)
      by_cases hp : 0 < ds[k]
      all_goals
        go_wp2
        go_round
        case rel => exact ⟨k + 1, _, by omega, by go_num, rfl, by omega, by omega, by have h := HR; unfold Hid at h ⊢; rw [HD.out, totalFrom] at h; rw [← h]; congr 1; simp [pos]; try omega⟩
        case measure => simp [intOf]; omega
    · go_wp2
      go_ret
      exact ⟨ret_i (by have h := HR; unfold Hid at h; rw [List.drop_eq_nil_of_le (by omega), totalFrom] at h; exact h), rfl⟩

theorem Can_c (A : Option Addr) (xs : List Int) (c : Nat) (v : Int) (w : World) (hX : RowI w A xs) (hm : xs.length ≤ 1000000) :
    Calls Try.prog 107 #[.slice A xs.length c, .int .i64 v] w fun e w' => e = .returned (.bool (xs.any fun x => bits .and .i64 x v == v)) ∧ w = w' := by
  have HX := Lib.hid hX
  clear hX
  go_enter Try.func107, Try.ntmps107
  go_wp2
  go_loop [5] (fun v5 => ∃ k : Nat, k ≤ xs.length ∧ v5 = .int .i64 k ∧ Hid (((xs.drop k).any fun x => bits .and .i64 x v == v) = (xs.any fun x => bits .and .i64 x v == v))) (fun v5 => xs.length - (intOf v5).toNat)
  case atStart => exact ⟨0, by omega, rfl, by simp [Hid]⟩
  case round =>
    obtain ⟨k, hk, rfl, HR⟩ := hrel
    by_cases hlt : k < xs.length
    · obtain ⟨b, off, rfl, d0⟩ := HX.out.at hlt
      have HD := Lib.hid (List.drop_eq_getElem_cons hlt)
      cases he : (bits .and .i64 xs[k] v == v)
      · go_wp2
        go_round
        case rel => exact ⟨k + 1, by omega, by go_num, by have h := HR; unfold Hid at h ⊢; rw [HD.out, List.any_cons, he, Bool.false_or] at h; exact h⟩
        case measure => simp [intOf]; omega
      · go_wp2
        go_ret
        exact ⟨ret_b (by have h := HR; unfold Hid at h; rw [HD.out, List.any_cons, he, Bool.true_or] at h; exact h), rfl⟩
    · go_wp2
      go_ret
      exact ⟨ret_b (by have h := HR; unfold Hid at h; rw [List.drop_eq_nil_of_le (by omega), List.any_nil] at h; exact h), rfl⟩

end Go.Proofs.Ytogdhkecpjndlaa.C

/- How many counts a ledger has; a ledger's error, by the program and by the reference. -/
namespace Go.Proofs.Ytogdhkecpjndlaa.C
open Go.RowKit
set_option maxRecDepth 10000

set_option maxHeartbeats 1000000 in
theorem Many_c (lo hi : Int) (A : Option Addr) (C : Value) (gs : List T3) (cA : Nat) (w : World) (h0 : 0 ≤ lo) (h1 : lo ≤ hi) (h2 : hi ≤ 1000) (hG : Row3 w A gs) (hv : ∀ g ∈ gs, 0 ≤ g.lo ∧ g.lo ≤ g.hi ∧ g.hi ≤ 1000) (hl : gs.length ≤ 30) :
    Calls Try.prog 41 #[.agg #[.int .i64 lo, .int .i64 hi, .slice A gs.length cA, C]] w fun e w' => e = .returned (.int .i64 (many 3000 (hi - lo + 1) gs)) ∧ G w w' := by
  have HG := Lib.hid hG
  have HV := Lib.hid hv
  clear hG hv
  go_enter Try.func41, Try.ntmps41
  go_wp2_with (go_at_call 88; refine (Size_c _ _ _ h0 h1 h2).mono ?_; rintro e w' ⟨rfl, hb⟩)
  have hB : G w w' := ((G.refl _).alloc _).trans hb
  have c1 : w'.cell? ⟨w.heap.size, 2, none⟩ = some (.slice A gs.length cA) := hb.cell (newCell _ _ _ _ rfl)
  go_loopw [3, 4] (fun v3 v4 wr => ∃ (k : Nat) (acc : Int), k ≤ gs.length ∧ v4 = .int .i64 k ∧ v3 = .int .i64 acc ∧ 0 ≤ acc ∧ acc ≤ 3000 ∧ Hid (many 3000 acc (gs.drop k) = many 3000 (hi - lo + 1) gs) ∧ G w' wr) (fun _ v4 _ => gs.length - (intOf v4).toNat)
  case atStart => exact ⟨0, hi - lo + 1, by omega, rfl, rfl, by omega, by omega, by simp [Hid], G.refl _⟩
  case round =>
    obtain ⟨k, acc, hk, rfl, rfl, ha0, ha1, HR, hbr⟩ := hrel
    have c1r := hbr.cell c1
    by_cases hlt : k < gs.length
    · obtain ⟨b, off, rfl, d0, d1, d2⟩ := HG.out.at hlt
      have hvk := HV.out gs[k] (List.getElem_mem hlt)
      have e1 := hbr.cell (hB.cell d1)
      have e2 := hbr.cell (hB.cell d2)
      have hm := mul_bd ha0 ha1 (b := gs[k].hi - gs[k].lo + 1) (B := 1001) (by omega) (by omega)
      have HD := Lib.hid (List.drop_eq_getElem_cons hlt)
      by_cases hc : acc * (gs[k].hi - gs[k].lo + 1) < 3000
      all_goals
        go_wp2_with (go_at_call 88; refine (Size_c _ _ _ (by omega) (by omega) (by omega)).mono ?_; rintro e w'' ⟨rfl, hb2⟩)
        go_roundw
        case rel => exact ⟨k + 1, _, by omega, by go_num, rfl, by omega, by omega, by have h := HR; unfold Hid at h ⊢; rw [HD.out, many] at h; rw [← h]; congr 1; unfold sz; omega, hbr.trans hb2⟩
        case measure => simp [intOf]; omega
    · go_wp2
      go_ret
      exact ⟨ret_i (by have h := HR; unfold Hid at h; rw [List.drop_eq_nil_of_le (by omega), many] at h; exact h), hB.trans hbr⟩

/-- What ledgers look like in memory. -/
structure LedR (w : World) (l : Led) (A C : Option Addr) : Prop where
  g : Row3 w A l.gs
  c : Row3 w C l.cs
theorem LedR.grow {w w1 : World} {l : Led} {A C : Option Addr} (h : LedR w l A C) (hb : G w w1) : LedR w1 l A C := ⟨h.g.grow hb, h.c.grow hb⟩
abbrev ledV (l : Led) (A C : Option Addr) (cA cC : Nat) : Value := .agg #[.int .i64 l.lo, .int .i64 l.hi, .slice A l.gs.length cA, .slice C l.cs.length cC]

theorem okG_take {l : List T3} {k : Nat} (hlt : k < l.length) (h : ∀ g ∈ l.take k, okG g = true) (hk : okG l[k] = true) : ∀ g ∈ l.take (k + 1), okG g = true := by
  intro g hg
  rw [List.take_succ_eq_append_getElem hlt, List.mem_append, List.mem_singleton] at hg
  rcases hg with hg | rfl
  · exact h g hg
  · exact hk
theorem okC_take {n : Int} {l : List T3} {k : Nat} (hlt : k < l.length) (h : ∀ g ∈ l.take k, okC n g = true) (hk : okC n l[k] = true) : ∀ g ∈ l.take (k + 1), okC n g = true := by
  intro g hg
  rw [List.take_succ_eq_append_getElem hlt, List.mem_append, List.mem_singleton] at hg
  rcases hg with hg | rfl
  · exact h g hg
  · exact hk
theorem all_not {α : Type} {p : α → Bool} {l : List α} {k : Nat} (hlt : k < l.length) (hk : p l[k] = false) : l.all p = false := by
  rw [List.all_eq_false]
  exact ⟨_, List.getElem_mem hlt, by simp [hk]⟩

set_option maxHeartbeats 2000000 in
theorem Fault_c (l : Led) (A C : Option Addr) (cA cC : Nat) (w : World) (hL : LedR w l A C) (hg : l.gs.length ≤ 30) (hc : l.cs.length ≤ 30) :
    Calls Try.prog 104 #[ledV l A C cA cC] w fun e w' => e = .returned (.int .i64 (fault l)) ∧ G w w' := by
  have HG := Lib.hid hL.g
  have HC := Lib.hid hL.c
  clear hL
  by_cases h4 : 4 < l.gs.length
  · have HF := Lib.hid (show fault l = 3 by unfold fault; rw [if_pos (.inl h4)])
    go_enter Try.func104, Try.ntmps104
    go_wp2
    go_ret
    exact ⟨ret_i HF.out.symm, (G.refl _).alloc _⟩
  by_cases h5 : 5 < l.cs.length
  · have HF := Lib.hid (show fault l = 3 by unfold fault; rw [if_pos (.inr h5)])
    go_enter Try.func104, Try.ntmps104
    go_wp2
    go_ret
    exact ⟨ret_i HF.out.symm, (G.refl _).alloc _⟩
  cases hr : isB l.lo l.hi 0 30
  · have HF := Lib.hid (show fault l = 1 by unfold fault; rw [if_neg (by omega), if_pos (.inl hr)])
    go_enter Try.func104, Try.ntmps104
    go_wp2_with (go_at_call 120; refine (Is_c _ _ _ _ _).mono ?_; rintro e w' ⟨rfl, hb⟩)
    go_ret
    exact ⟨ret_i HF.out.symm, ((G.refl _).alloc _).trans hb⟩
  go_enter Try.func104, Try.ntmps104
  go_wp2_with (go_at_call 120; refine (Is_c _ _ _ _ _).mono ?_; rintro e w' ⟨rfl, hb⟩)
  have hB : G w w' := ((G.refl _).alloc _).trans hb
  have c2 : w'.cell? ⟨w.heap.size, 2, none⟩ = some (.slice A l.gs.length cA) := hb.cell (newCell _ _ _ _ rfl)
  have c3 : w'.cell? ⟨w.heap.size, 3, none⟩ = some (.slice C l.cs.length cC) := hb.cell (newCell _ _ _ _ rfl)
  have c0 : w'.cell? ⟨w.heap.size, 0, none⟩ = some (.int .i64 l.lo) := hb.cell (newCell _ _ _ _ rfl)
  have c1 : w'.cell? ⟨w.heap.size, 1, none⟩ = some (.int .i64 l.hi) := hb.cell (newCell _ _ _ _ rfl)
  have HR0 := Lib.hid hr
  clear hr hb
  go_loopw [3] (fun v3 wr => ∃ (k : Nat), k ≤ l.gs.length ∧ v3 = .int .i64 k ∧ Hid (∀ g ∈ l.gs.take k, okG g = true) ∧ G w' wr) (fun v3 _ => l.gs.length - (intOf v3).toNat)
  case atStart => exact ⟨0, by omega, rfl, by simp [Hid], G.refl _⟩
  case round =>
    obtain ⟨k, hk, rfl, HR, hbr⟩ := hrel
    have c2r := hbr.cell c2
    have c3r := hbr.cell c3
    by_cases hlt : k < l.gs.length
    · obtain ⟨b, off, rfl, d0, d1, d2⟩ := HG.out.at hlt
      have e0 := hbr.cell (hB.cell d0)
      have e1 := hbr.cell (hB.cell d1)
      have e2 := hbr.cell (hB.cell d2)
      cases hi : inB l.gs[k].a 0 999
      · have HF := Lib.hid (show fault l = 1 by unfold fault; rw [if_neg (by omega), if_pos (.inr (.inl (all_not hlt (by simp [okG, hi]))))])
        go_wp2_with (go_at_call 44; refine (In_c _ _ _ _).mono ?_; rintro e w'' ⟨rfl, rfl⟩)
        go_ret
        exact ⟨ret_i HF.out.symm, hB.trans (hbr.alloc _)⟩
      cases hi2 : isB l.gs[k].lo l.gs[k].hi 0 9
      · have HF := Lib.hid (show fault l = 1 by unfold fault; rw [if_neg (by omega), if_pos (.inr (.inl (all_not hlt (by simp [okG, hi2]))))])
        go_wp2_with (first | (go_at_call 44; refine (In_c _ _ _ _).mono ?_; rintro e w'' ⟨rfl, rfl⟩) | (go_at_call 120; refine (Is_c _ _ _ _ _).mono ?_; rintro e w'' ⟨rfl, hb2⟩))
        go_ret
        exact ⟨ret_i HF.out.symm, hB.trans ((hbr.alloc _).trans hb2)⟩
      go_wp2_with (first | (go_at_call 44; refine (In_c _ _ _ _).mono ?_; rintro e w'' ⟨rfl, rfl⟩) | (go_at_call 120; refine (Is_c _ _ _ _ _).mono ?_; rintro e w'' ⟨rfl, hb2⟩))
      go_roundw
      case rel => exact ⟨k + 1, by omega, by go_num, okG_take hlt HR.out (by simp [okG, hi, hi2]), (hbr.alloc _).trans hb2⟩
      case measure => simp [intOf]; omega
    · have HR2 := Lib.hid (show l.gs.all okG = true from List.all_eq_true.2 (by have h := HR.out; rwa [List.take_of_length_le (by omega)] at h))
      clear HR
      go_wp2
      obtain ⟨wo, rfl⟩ : ∃ wo : World, wo = wr := ⟨_, rfl⟩
      have hB2 : G w wo := hB.trans hbr
      have c0r := hbr.cell c0
      have c1r := hbr.cell c1
      clear c0 c1 c2 c3 hbr hB
      go_loopw [5] (fun v3 wq => ∃ (k : Nat), k ≤ l.cs.length ∧ v3 = .int .i64 k ∧ Hid (∀ g ∈ l.cs.take k, okC l.gs.length g = true) ∧ G wo wq) (fun v3 _ => l.cs.length - (intOf v3).toNat)
      case atStart => exact ⟨0, by omega, rfl, by simp [Hid], G.refl _⟩
      case round =>
        obtain ⟨j, hj, rfl, HS, hbq⟩ := hrel
        have c2q := hbq.cell c2r
        have c3q := hbq.cell c3r
        have s2 := cell_lt c2q
        by_cases hltj : j < l.cs.length
        · obtain ⟨b, off, rfl, d0, d1, d2⟩ := HC.out.at hltj
          have e0 := hbq.cell (hB2.cell d0)
          have e1 := hbq.cell (hB2.cell d1)
          have e2 := hbq.cell (hB2.cell d2)
          cases hi : inB l.cs[j].a 0 (l.gs.length - 1)
          · have HF := Lib.hid (show fault l = 1 by unfold fault; rw [if_neg (by omega), if_pos (.inr (.inr (all_not hltj (by simp [okC, hi]))))])
            go_wp2_with (go_at_call 44; refine (In_c _ _ _ _).mono ?_; rintro e w'' ⟨rfl, rfl⟩)
            go_ret
            exact ⟨ret_i HF.out.symm, hB2.trans (hbq.alloc _)⟩
          cases hi2 : isB l.cs[j].lo l.cs[j].hi (-999) 999
          · have HF := Lib.hid (show fault l = 1 by unfold fault; rw [if_neg (by omega), if_pos (.inr (.inr (all_not hltj (by simp [okC, hi2]))))])
            go_wp2_with (first | (go_at_call 44; refine (In_c _ _ _ _).mono ?_; rintro e w'' ⟨rfl, rfl⟩) | (go_at_call 120; refine (Is_c _ _ _ _ _).mono ?_; rintro e w'' ⟨rfl, hb2⟩))
            go_ret
            exact ⟨ret_i HF.out.symm, hB2.trans ((hbq.alloc _).trans hb2)⟩
          go_wp2_with (first | (go_at_call 44; refine (In_c _ _ _ _).mono ?_; rintro e w'' ⟨rfl, rfl⟩) | (go_at_call 120; refine (Is_c _ _ _ _ _).mono ?_; rintro e w'' ⟨rfl, hb2⟩))
          go_roundw
          case rel => exact ⟨j + 1, by omega, by go_num, okC_take hltj HS.out (by simp [okC, hi, hi2]), (hbq.alloc _).trans hb2⟩
          case measure => simp [intOf]; omega
        · have HS2 := Lib.hid (show l.cs.all (okC l.gs.length) = true from List.all_eq_true.2 (by have h := HS.out; rwa [List.take_of_length_le (by omega)] at h))
          have c0q := hbq.cell c0r
          have c1q := hbq.cell c1r
          have hi := isB_iff.1 HR0.out
          have HG2 : Hid (Row3 wr A l.gs) := HG.out.grow (hB2.trans hbq)
          have HV : Hid (∀ g ∈ l.gs, 0 ≤ g.lo ∧ g.lo ≤ g.hi ∧ g.hi ≤ 1000) := fun g hg => by have := okG_iff.1 (List.all_eq_true.1 HR2.out g hg); omega
          have HF := Lib.hid (show fault l = if 2000 < many 3000 (l.hi - l.lo + 1) l.gs then 3 else 0 by unfold fault; rw [if_neg (by omega), if_neg (by rw [HR0.out, HR2.out, HS2.out]; simp)])
          by_cases hm : 2000 < many 3000 (l.hi - l.lo + 1) l.gs
          · have HF2 := Lib.hid (HF.out.trans (if_pos hm))
            clear HS
            go_wp2_with (go_at_call 41; refine (Many_c _ _ _ _ _ _ _ (by omega) (by omega) (by omega) HG2.out HV.out (by omega)).mono ?_; rintro e w'' ⟨rfl, hb2⟩)
            go_ret
            exact ⟨ret_i HF2.out.symm, hB2.trans (hbq.trans hb2)⟩
          · have HF2 := Lib.hid (HF.out.trans (if_neg hm))
            clear HS
            go_wp2_with (go_at_call 41; refine (Many_c _ _ _ _ _ _ _ (by omega) (by omega) (by omega) HG2.out HV.out (by omega)).mono ?_; rintro e w'' ⟨rfl, hb2⟩)
            go_ret
            exact ⟨ret_i HF2.out.symm, hB2.trans (hbq.trans hb2)⟩

end Go.Proofs.Ytogdhkecpjndlaa.C

/- A ledger's error, by the program: closures, method values, CheckLedger. -/
namespace Go.Proofs.Ytogdhkecpjndlaa.C
open Go.RowKit
set_option maxRecDepth 10000

theorem gcl_c (x : T3) (b : Nat) (w : World) (hp : w.cell? ⟨b, 0, none⟩ = some (.func (.func 101) #[] #[])) :
    Calls Try.prog 117 #[.agg #[.int .i64 x.a, .int .i64 x.lo, .int .i64 x.hi], .pointer (some ⟨b, 0, none⟩)] w fun e w' => e = .returned (.bool (!okG x)) ∧ G w w' := by
  have s := cell_lt hp
  go_enter Try.func117, Try.ntmps117
  go_wp2_with (go_at_call 101; refine (valid_c _ _).mono ?_; rintro e w' ⟨rfl, hb⟩)
  go_ret
  exact ⟨rfl, ((G.refl _).alloc _).trans hb⟩

theorem ccl_c (l : Led) (A C : Option Addr) (cA cC : Nat) (x : T3) (b : Nat) (w : World) (hn : l.gs.length ≤ 30) (hp : w.cell? ⟨b, 0, none⟩ = some (.func (.func 98) #[ledV l A C cA cC] #[])) :
    Calls Try.prog 119 #[.agg #[.int .i64 x.a, .int .i64 x.lo, .int .i64 x.hi], .pointer (some ⟨b, 0, none⟩)] w fun e w' => e = .returned (.bool (!okC l.gs.length x)) ∧ G w w' := by
  have s := cell_lt hp
  go_enter Try.func119, Try.ntmps119
  go_wp2_with (go_at_call 98; refine (claim_c _ _ _ _ _ _ _ _ hn).mono ?_; rintro e w' ⟨rfl, hb⟩)
  go_ret
  exact ⟨rfl, ((G.refl _).alloc _).trans hb⟩

set_option maxHeartbeats 1000000 in
theorem allG_c (A0 : Option Addr) (gs : List T3) (c : Nat) (b : Nat) (w : World) (hm : gs.length ≤ 30) (hG : Row3 w A0 gs) (hp : w.cell? ⟨b, 0, none⟩ = some (.func (.func 101) #[] #[])) :
    Calls Try.prog 123 #[.slice A0 gs.length c, .func (.func 117) #[] #[.pointer (some ⟨b, 0, none⟩)]] w fun e w' => e = .returned (.int .i64 (idxNot (okG) gs 0)) ∧ G w w' := by
  have HG := Lib.hid hG
  clear hG
  go_enter Try.func123, Try.ntmps123
  go_wp2
  go_loopw [8] (fun v8 wr => ∃ k : Nat, k ≤ gs.length ∧ v8 = .int .i64 k ∧ Hid (idxNot (okG) (gs.drop k) k = idxNot (okG) gs 0) ∧ G w wr) (fun v8 _ => gs.length - (intOf v8).toNat)
  case atStart => exact ⟨0, by omega, rfl, by simp [Hid], G.refl _⟩
  case round =>
    obtain ⟨k, hk, rfl, HR, hbr⟩ := hrel
    by_cases hlt : k < gs.length
    · obtain ⟨b1, off, rfl, d0, d1, d2⟩ := HG.out.at hlt
      have e0 := hbr.cell d0
      have e1 := hbr.cell d1
      have e2 := hbr.cell d2
      have hpr := hbr.cell hp
      have HD := Lib.hid (List.drop_eq_getElem_cons hlt)
      cases he : okG gs[k]
      · go_wp2_with (go_at_call 117; refine (gcl_c _ _ _ hpr).mono ?_; rintro e w' ⟨rfl, hb⟩)
        go_ret
        exact ⟨ret_i (by have h := HR; unfold Hid at h; rw [HD.out, idxNot, he, if_neg (by simp)] at h; exact h), hbr.trans hb⟩
      · go_wp2_with (go_at_call 117; refine (gcl_c _ _ _ hpr).mono ?_; rintro e w' ⟨rfl, hb⟩)
        go_roundw
        case rel => exact ⟨k + 1, by omega, by go_num, by have h := HR; unfold Hid at h ⊢; rw [HD.out, idxNot, he, if_pos rfl] at h; exact_mod_cast h, hbr.trans hb⟩
        case measure => simp [intOf]; omega
    · go_wp2
      go_ret
      exact ⟨ret_i (by have h := HR; unfold Hid at h; rw [List.drop_eq_nil_of_le (by omega), idxNot] at h; exact h), hbr⟩

theorem allGB_c (A0 : Option Addr) (gs : List T3) (c : Nat) (b : Nat) (w : World) (hm : gs.length ≤ 30) (hG : Row3 w A0 gs) (hp : w.cell? ⟨b, 0, none⟩ = some (.func (.func 101) #[] #[])) :
    Calls Try.prog 116 #[.slice A0 gs.length c, .func (.func 117) #[] #[.pointer (some ⟨b, 0, none⟩)]] w fun e w' => e = .returned (.bool (!gs.all (okG))) ∧ G w w' := by
  have HG := Lib.hid hG
  clear hG
  have HN := Lib.hid (idxNot_all (okG) gs 0 (by omega))
  go_enter Try.func116, Try.ntmps116
  go_wp2_with (go_at_call 123; refine (allG_c _ _ _ _ _ hm HG.out hp).mono ?_; rintro e w' ⟨rfl, hb⟩)
  go_ret
  exact ⟨ret_b HN.out, hb⟩

theorem allGA_c (A0 : Option Addr) (gs : List T3) (c : Nat) (w : World) (hm : gs.length ≤ 30) (hG : Row3 w A0 gs) :
    Calls Try.prog 100 #[.slice A0 gs.length c, .func (.func 101) #[] #[]] w fun e w' => e = .returned (.bool (gs.all (okG))) ∧ G w w' := by
  have HG := Lib.hid hG
  clear hG
  have hmf : ∀ (fn : Fn) (first cap : Array Value) (w : World), (Instr.makeFunc fn first cap).run Try.prog w = .ok (.func fn first cap) w := fun _ _ _ _ => rfl
  have hG2 := Lib.hid (HG.out.grow ((G.refl w).alloc (.cells #[.func (.func 101) #[] #[]] 149)))
  go_enter Try.func100, Try.ntmps100
  go_wp2_with (go_at_call 116; refine (allGB_c _ _ _ _ _ hm hG2.out (newCell _ _ _ _ rfl)).mono ?_; rintro e w' ⟨rfl, hb⟩)
  go_ret
  exact ⟨by simp, ((G.refl _).alloc _).trans hb⟩

set_option maxHeartbeats 1000000 in
theorem allC_c (l : Led) (A C : Option Addr) (cA cC : Nat) (A0 : Option Addr) (gs : List T3) (c : Nat) (b : Nat) (w : World) (hm : gs.length ≤ 30) (hn : l.gs.length ≤ 30) (hG : Row3 w A0 gs) (hp : w.cell? ⟨b, 0, none⟩ = some (.func (.func 98) #[ledV l A C cA cC] #[])) :
    Calls Try.prog 124 #[.slice A0 gs.length c, .func (.func 119) #[] #[.pointer (some ⟨b, 0, none⟩)]] w fun e w' => e = .returned (.int .i64 (idxNot (okC l.gs.length) gs 0)) ∧ G w w' := by
  have HG := Lib.hid hG
  clear hG
  go_enter Try.func124, Try.ntmps124
  go_wp2
  go_loopw [8] (fun v8 wr => ∃ k : Nat, k ≤ gs.length ∧ v8 = .int .i64 k ∧ Hid (idxNot (okC l.gs.length) (gs.drop k) k = idxNot (okC l.gs.length) gs 0) ∧ G w wr) (fun v8 _ => gs.length - (intOf v8).toNat)
  case atStart => exact ⟨0, by omega, rfl, by simp [Hid], G.refl _⟩
  case round =>
    obtain ⟨k, hk, rfl, HR, hbr⟩ := hrel
    by_cases hlt : k < gs.length
    · obtain ⟨b1, off, rfl, d0, d1, d2⟩ := HG.out.at hlt
      have e0 := hbr.cell d0
      have e1 := hbr.cell d1
      have e2 := hbr.cell d2
      have hpr := hbr.cell hp
      have HD := Lib.hid (List.drop_eq_getElem_cons hlt)
      cases he : okC l.gs.length gs[k]
      · go_wp2_with (go_at_call 119; refine (ccl_c l A C cA cC _ _ _ hn hpr).mono ?_; rintro e w' ⟨rfl, hb⟩)
        go_ret
        exact ⟨ret_i (by have h := HR; unfold Hid at h; rw [HD.out, idxNot, he, if_neg (by simp)] at h; exact h), hbr.trans hb⟩
      · go_wp2_with (go_at_call 119; refine (ccl_c l A C cA cC _ _ _ hn hpr).mono ?_; rintro e w' ⟨rfl, hb⟩)
        go_roundw
        case rel => exact ⟨k + 1, by omega, by go_num, by have h := HR; unfold Hid at h ⊢; rw [HD.out, idxNot, he, if_pos rfl] at h; exact_mod_cast h, hbr.trans hb⟩
        case measure => simp [intOf]; omega
    · go_wp2
      go_ret
      exact ⟨ret_i (by have h := HR; unfold Hid at h; rw [List.drop_eq_nil_of_le (by omega), idxNot] at h; exact h), hbr⟩

theorem allCB_c (l : Led) (A C : Option Addr) (cA cC : Nat) (A0 : Option Addr) (gs : List T3) (c : Nat) (b : Nat) (w : World) (hm : gs.length ≤ 30) (hn : l.gs.length ≤ 30) (hG : Row3 w A0 gs) (hp : w.cell? ⟨b, 0, none⟩ = some (.func (.func 98) #[ledV l A C cA cC] #[])) :
    Calls Try.prog 118 #[.slice A0 gs.length c, .func (.func 119) #[] #[.pointer (some ⟨b, 0, none⟩)]] w fun e w' => e = .returned (.bool (!gs.all (okC l.gs.length))) ∧ G w w' := by
  have HG := Lib.hid hG
  clear hG
  have HN := Lib.hid (idxNot_all (okC l.gs.length) gs 0 (by omega))
  go_enter Try.func118, Try.ntmps118
  go_wp2_with (go_at_call 124; refine (allC_c l A C cA cC _ _ _ _ _ hm hn HG.out hp).mono ?_; rintro e w' ⟨rfl, hb⟩)
  go_ret
  exact ⟨ret_b HN.out, hb⟩

theorem allCA_c (l : Led) (A C : Option Addr) (cA cC : Nat) (A0 : Option Addr) (gs : List T3) (c : Nat) (w : World) (hm : gs.length ≤ 30) (hn : l.gs.length ≤ 30) (hG : Row3 w A0 gs) :
    Calls Try.prog 102 #[.slice A0 gs.length c, .func (.func 98) #[ledV l A C cA cC] #[]] w fun e w' => e = .returned (.bool (gs.all (okC l.gs.length))) ∧ G w w' := by
  have HG := Lib.hid hG
  clear hG
  have hmf : ∀ (fn : Fn) (first cap : Array Value) (w : World), (Instr.makeFunc fn first cap).run Try.prog w = .ok (.func fn first cap) w := fun _ _ _ _ => rfl
  have hG2 := Lib.hid (HG.out.grow ((G.refl w).alloc (.cells #[.func (.func 98) #[ledV l A C cA cC] #[]] 146)))
  go_enter Try.func102, Try.ntmps102
  go_wp2_with (go_at_call 118; refine (allCB_c l A C cA cC _ _ _ _ _ hm hn hG2.out (newCell _ _ _ _ rfl)).mono ?_; rintro e w' ⟨rfl, hb⟩)
  go_ret
  exact ⟨by simp, ((G.refl _).alloc _).trans hb⟩

set_option maxHeartbeats 2000000 in
theorem Check_c (l : Led) (A C : Option Addr) (cA cC : Nat) (w : World) (hL : LedR w l A C) (hg : l.gs.length ≤ 30) (hc : l.cs.length ≤ 30) :
    Calls Try.prog 58 #[ledV l A C cA cC] w fun e w' => e = .returned (.int .i64 (fault l)) ∧ G w w' := by
  have HL := Lib.hid hL
  clear hL
  have hmf : ∀ (fn : Fn) (first cap : Array Value) (w : World), (Instr.makeFunc fn first cap).run Try.prog w = .ok (.func fn first cap) w := fun _ _ _ _ => rfl
  by_cases h4 : 4 < l.gs.length
  · have HF := Lib.hid (show fault l = 3 by unfold fault; rw [if_pos (.inl h4)])
    go_enter Try.func58, Try.ntmps58
    go_wp2
    go_ret
    exact ⟨ret_i HF.out.symm, (G.refl _).alloc _⟩
  by_cases h5 : 5 < l.cs.length
  · have HF := Lib.hid (show fault l = 3 by unfold fault; rw [if_pos (.inr h5)])
    go_enter Try.func58, Try.ntmps58
    go_wp2
    go_ret
    exact ⟨ret_i HF.out.symm, (G.refl _).alloc _⟩
  cases hr : isB l.lo l.hi 0 30
  · have HF := Lib.hid (show fault l = 1 by unfold fault; rw [if_neg (by omega), if_pos (.inl hr)])
    go_enter Try.func58, Try.ntmps58
    go_wp2_with (go_at_call 99; refine (between_c _ _ _ _ _).mono ?_; rintro e w' ⟨rfl, hb⟩)
    go_ret
    exact ⟨ret_i HF.out.symm, ((G.refl _).alloc _).trans hb⟩
  cases hga : l.gs.all okG
  · have HF := Lib.hid (show fault l = 1 by unfold fault; rw [if_neg (by omega), if_pos (.inr (.inl hga))])
    go_enter Try.func58, Try.ntmps58
    go_wp2_with fail
    refine (between_c _ _ _ _ _).mono ?_; rintro e w1 ⟨rfl, hb⟩
    have c2 := hb.cell (newCell w #[.int .i64 l.lo, .int .i64 l.hi, .slice A l.gs.length cA, .slice C l.cs.length cC] 38 2 rfl)
    have hB := ((G.refl w).alloc _).trans hb
    go_wp2_with fail
    refine (allGA_c _ _ _ _ hg (HL.out.g.grow hB)).mono ?_; rintro e w2 ⟨rfl, hb2⟩
    go_wp2
    go_ret
    exact ⟨ret_i HF.out.symm, hB.trans hb2⟩
  cases hca : l.cs.all (okC l.gs.length)
  · have HF := Lib.hid (show fault l = 1 by unfold fault; rw [if_neg (by omega), if_pos (.inr (.inr hca))])
    go_enter Try.func58, Try.ntmps58
    go_wp2_with fail
    refine (between_c _ _ _ _ _).mono ?_; rintro e w1 ⟨rfl, hb⟩
    have c2 := hb.cell (newCell w #[.int .i64 l.lo, .int .i64 l.hi, .slice A l.gs.length cA, .slice C l.cs.length cC] 38 2 rfl)
    have c3 := hb.cell (newCell w #[.int .i64 l.lo, .int .i64 l.hi, .slice A l.gs.length cA, .slice C l.cs.length cC] 38 3 rfl)
    have hB := ((G.refl w).alloc _).trans hb
    go_wp2_with fail
    refine (allGA_c _ _ _ _ hg (HL.out.g.grow hB)).mono ?_; rintro e w2 ⟨rfl, hb2⟩
    have c3' := hb2.cell c3
    go_wp2_with fail
    refine (allCA_c l A C cA cC _ _ _ _ (by omega) hg (HL.out.c.grow (hB.trans hb2))).mono ?_; rintro e w3 ⟨rfl, hb3⟩
    go_wp2
    go_ret
    exact ⟨ret_i HF.out.symm, hB.trans (hb2.trans hb3)⟩
  go_enter Try.func58, Try.ntmps58
  go_wp2_with fail
  refine (between_c _ _ _ _ _).mono ?_; rintro e w1 ⟨rfl, hb⟩
  have c0 := hb.cell (newCell w #[.int .i64 l.lo, .int .i64 l.hi, .slice A l.gs.length cA, .slice C l.cs.length cC] 38 0 rfl)
  have c1 := hb.cell (newCell w #[.int .i64 l.lo, .int .i64 l.hi, .slice A l.gs.length cA, .slice C l.cs.length cC] 38 1 rfl)
  have c2 := hb.cell (newCell w #[.int .i64 l.lo, .int .i64 l.hi, .slice A l.gs.length cA, .slice C l.cs.length cC] 38 2 rfl)
  have c3 := hb.cell (newCell w #[.int .i64 l.lo, .int .i64 l.hi, .slice A l.gs.length cA, .slice C l.cs.length cC] 38 3 rfl)
  have hB := ((G.refl w).alloc _).trans hb
  clear hb
  go_wp2_with fail
  refine (allGA_c _ _ _ _ hg (HL.out.g.grow hB)).mono ?_; rintro e w2 ⟨rfl, hb2⟩
  replace c0 := hb2.cell c0; replace c1 := hb2.cell c1; replace c2 := hb2.cell c2; replace c3 := hb2.cell c3
  replace hB := hB.trans hb2
  clear hb2
  go_wp2_with fail
  refine (allCA_c l A C cA cC _ _ _ _ (by omega) hg (HL.out.c.grow hB)).mono ?_; rintro e w3 ⟨rfl, hb2⟩
  replace c0 := hb2.cell c0; replace c1 := hb2.cell c1; replace c2 := hb2.cell c2
  replace hB := hB.trans hb2
  clear hb2 c3 hmf
  have hi := isB_iff.1 hr
  have HV := Lib.hid (show ∀ g ∈ l.gs, 0 ≤ g.lo ∧ g.lo ≤ g.hi ∧ g.hi ≤ 9 from fun g hg => by have := okG_iff.1 (List.all_eq_true.1 hga g hg); omega)
  have HM := Lib.hid (many_cap l.gs (l.hi - l.lo + 1) (l.hi - l.lo + 1) (fun g hg => by have := HV.out g hg; unfold sz; omega) (by omega) (by omega) (.inl rfl))
  have HF := Lib.hid (show fault l = if 2000 < many 3000 (l.hi - l.lo + 1) l.gs then 3 else 0 by unfold fault; rw [if_neg (by omega), if_neg (by rw [hr, hga, hca]; simp)])
  have HR0 := Lib.hid hr
  go_wp2_with fail
  clear hr hga hca
  refine (size_c _ _ _ hi.1 hi.2.1 (by omega)).mono ?_; rintro e w4 ⟨rfl, hb2⟩
  replace c2 := hb2.cell c2
  replace hB := hB.trans hb2
  clear hb2 c0 c1
  go_wp2
  go_loopw [4, 44] (fun v4 v44 wr => ∃ (k : Nat) (acc : Int), k ≤ l.gs.length ∧ v44 = .int .i64 k ∧ v4 = .int .i64 acc ∧ 0 ≤ acc ∧ acc ≤ 2001 ∧ Hid (many 2001 acc (l.gs.drop k) = many 2001 (l.hi - l.lo + 1) l.gs) ∧ G w4 wr) (fun _ v44 _ => l.gs.length - (intOf v44).toNat)
  case atStart => exact ⟨0, l.hi - l.lo + 1, by omega, rfl, rfl, by omega, by omega, by simp [Hid], G.refl _⟩
  case round =>
    obtain ⟨k, acc, hk, rfl, rfl, ha0, ha1, HR, hbr⟩ := hrel
    by_cases hlt : k < l.gs.length
    · obtain ⟨b, off, rfl, d0, d1, d2⟩ := HL.out.g.at hlt
      have hvk := HV.out l.gs[k] (List.getElem_mem hlt)
      have e0 := hbr.cell (hB.cell d0)
      have e1 := hbr.cell (hB.cell d1)
      have e2 := hbr.cell (hB.cell d2)
      have hm := mul_bd ha0 ha1 (b := l.gs[k].hi - l.gs[k].lo + 1) (B := 1001) (by omega) (by omega)
      have HD := Lib.hid (List.drop_eq_getElem_cons hlt)
      clear d0 d1 d2
      go_wp2_with fail
      refine (size_c _ _ _ (by omega) (by omega) (by omega)).mono ?_; rintro e w5 ⟨rfl, hb2⟩
      go_wp2_with fail
      have HI : RowI (w5.alloc (.cells #[.int .i64 (acc * (l.gs[k].hi - l.gs[k].lo + 1)), .int .i64 2001] 3)) (some ⟨w5.heap.size, 0, none⟩) [acc * (l.gs[k].hi - l.gs[k].lo + 1), 2001] := fun j x hj => by
        match j with
        | 0 => simp at hj; subst hj; exact ⟨_, _, rfl, newCell _ _ _ _ rfl⟩
        | 1 => simp at hj; subst hj; exact ⟨_, _, rfl, newCell _ _ _ _ rfl⟩
        | j + 2 => simp at hj
      refine (minimum_c _ _ _ _ _ HI (by simp)).mono ?_; rintro e w6 ⟨rfl, rfl⟩
      go_wp2
      go_roundw
      case rel => exact ⟨k + 1, _, by omega, by go_num, rfl, by simp only [minL]; split <;> omega, by simp only [minL]; split <;> omega, by have h := HR; unfold Hid at h ⊢; rw [HD.out, many] at h; rw [← h]; congr 1; simp only [minL, sz]; split <;> omega, ((hbr.alloc _).trans hb2).alloc _⟩
      case measure => simp [intOf]; omega
    · have HE := Lib.hid (show many 2001 (l.hi - l.lo + 1) l.gs = acc by have h := HR; unfold Hid at h; rw [List.drop_eq_nil_of_le (by omega), many] at h; exact h.symm)
      by_cases hm : 2000 < acc
      · have HF2 := Lib.hid (HF.out.trans (if_pos (HM.out.1 (by rw [HE.out]; exact hm))))
        go_wp2
        go_ret
        exact ⟨ret_i HF2.out.symm, hB.trans hbr⟩
      · have HF2 := Lib.hid (HF.out.trans (if_neg (fun h => hm (by rw [← HE.out]; exact HM.out.2 h))))
        go_wp2
        go_ret
        exact ⟨ret_i HF2.out.symm, hB.trans hbr⟩

end Go.Proofs.Ytogdhkecpjndlaa.C

/- What growers are owed with a count, by the program; which claims are right. -/
namespace Go.Proofs.Ytogdhkecpjndlaa.C
open Go.RowKit
set_option maxRecDepth 10000

/-- A count at work: the rate and four numbers of bundles. -/
abbrev cntV (c : Cn) : Value := .agg #[.int .i64 c.r, .int .i64 (c.b 0), .int .i64 (c.b 1), .int .i64 (c.b 2), .int .i64 (c.b 3)]

theorem cnt_at (c : Cn) (g : Nat) (h : g < 4) : (#[.int .i64 c.r, .int .i64 (c.b 0), .int .i64 (c.b 1), .int .i64 (c.b 2), .int .i64 (c.b 3)] : Array Value)[1 + g]? = some (.int .i64 (c.b g)) := by
  match g, h with
  | 0, _ => rfl
  | 1, _ => rfl
  | 2, _ => rfl
  | 3, _ => rfl

set_option maxHeartbeats 1000000 in
theorem owed_c (l : Led) (A C : Option Addr) (cA cC : Nat) (c : Cn) (g : Nat) (w : World) (hG : Row3 w A l.gs) (hg : g < l.gs.length) (hn : l.gs.length ≤ 4) (hr : 0 ≤ c.r ∧ c.r ≤ 1000) (hb : 0 ≤ c.b g ∧ c.b g ≤ 1000) (ha : 0 ≤ l.adv g ∧ l.adv g ≤ 1000) :
    Calls Try.prog 112 #[ledV l A C cA cC, cntV c, .int .i64 g] w fun e w' => e = .returned (.int .i64 (owed l c g)) ∧ G w w' := by
  obtain ⟨b, off, rfl, d0, -, -⟩ := hG.at hg
  clear hG
  have h4 : (g : Int) < 4 := by omega
  have h0 : (0 : Int) ≤ g := by omega
  have h1 : (g : Int) < l.gs.length := by omega
  rw [Led.adv_eq hg] at ha
  have hm := mul_bd hr.1 hr.2 hb.1 hb.2
  have HO := Lib.hid (show owed l c g = c.r * c.b g - l.gs[g].a by unfold owed; rw [Led.adv_eq hg])
  go_enter Try.func112, Try.ntmps112
  go_wp2
  generalize hW : (w.alloc _).alloc _ = W
  obtain ⟨hB, k1, k2⟩ := boxes2 hW
  have f0 := k1 2 _ rfl
  have f1 := k2 0 _ rfl
  have f2 := k2 (1 + g) _ (cnt_at c g (by omega))
  have f3 := hB.cell d0
  clear hW d0 k1 k2
  go_quiet (fail)
  go_wp2
  go_ret
  exact ⟨ret_i HO.out.symm, hB.drewN _⟩

theorem owedV_c {l : Led} {A C : Option Addr} {cA cC : Nat} {c : Cn} {g : Nat} {w : World} (hV : Valid l) (hK : CntOk l c) (hG : Row3 w A l.gs) (hg : g < l.gs.length) :
    Calls Try.prog 112 #[ledV l A C cA cC, cntV c, .int .i64 g] w fun e w' => e = .returned (.int .i64 (owed l c g)) ∧ G w w' :=
  owed_c l A C cA cC c g w hG hg hV.ng ⟨hK.r0, by have := hK.r1; omega⟩ (by have := hK.at g; omega) (by have := hV.at g; omega)

theorem owedX_c {l : Led} {A C : Option Addr} {cA cC : Nat} {c : Cn} {x : Int} {w : World} (hV : Valid l) (hK : CntOk l c) (hG : Row3 w A l.gs) (h0 : 0 ≤ x) (h1 : x < l.gs.length) :
    Calls Try.prog 112 #[ledV l A C cA cC, cntV c, .int .i64 x] w fun e w' => e = .returned (.int .i64 (owed l c x.toNat)) ∧ G w w' := by
  obtain ⟨g, rfl⟩ := Int.eq_ofNat_of_zero_le h0
  exact owedV_c hV hK hG (by omega)

/-- All claims but some are right. -/
def rightBut (l : Led) (c : Cn) (out : List Int) : Nat → List T3 → Bool
  | _, [] => true
  | i, x :: xs => (decide (0 ≤ idx (i : Int) out 0) || rightC l c x) && rightBut l c out (i + 1) xs

set_option maxHeartbeats 2000000 in
theorem right_c (l : Led) (A C O : Option Addr) (cA cC cO : Nat) (c : Cn) (out : List Int) (w : World) (hV : Valid l) (hK : CntOk l c) (hL : LedR w l A C) (hO : RowI w O out) (ho : out.length ≤ 100) :
    Calls Try.prog 95 #[ledV l A C cA cC, cntV c, .slice O out.length cO] w fun e w' => e = .returned (.bool (rightBut l c out 0 l.cs)) ∧ G w w' := by
  have HL := Lib.hid hL
  have HO := Lib.hid hO
  have HV := Lib.hid hV
  have HK := Lib.hid hK
  have hng := hV.ng
  have hnc := hV.nc
  clear hL hO hV hK
  go_enter Try.func95, Try.ntmps95
  go_wp2
  generalize hW : (w.alloc _).alloc _ = W
  obtain ⟨hB, k1, k2⟩ := boxes2 hW
  have HLc := Lib.hid (k1)
  have HCc := Lib.hid (k2)
  clear hW k1 k2
  go_loopw [12] (fun v12 wr => ∃ k : Nat, k ≤ l.cs.length ∧ v12 = .int .i64 k ∧ Hid (rightBut l c out k (l.cs.drop k) = rightBut l c out 0 l.cs) ∧ G W wr) (fun v12 _ => l.cs.length - (intOf v12).toNat)
  case atStart => exact ⟨0, by omega, rfl, by simp [Hid], G.refl _⟩
  case round =>
    obtain ⟨k, hk, rfl, HR, hbr⟩ := hrel
    by_cases hlt : k < l.cs.length
    · obtain ⟨b, off, rfl, d0, d1, d2⟩ := HL.out.c.at hlt
      obtain ⟨hc0, hc1, -⟩ := HV.out.c l.cs[k] (List.getElem_mem hlt)
      have e0 := hbr.cell (hB.cell d0)
      have e1 := hbr.cell (hB.cell d1)
      have e2 := hbr.cell (hB.cell d2)
      clear d0 d1 d2
      have HD := Lib.hid (List.drop_eq_getElem_cons hlt)
      go_wp2
      generalize hX : wr.alloc _ = X
      obtain ⟨hB2, k3⟩ := boxes1 hX
      have g0 : X.cell? ⟨wr.heap.size, 0, none⟩ = some (.int .i64 l.cs[k].a) := k3 0 _ rfl
      have g1 : X.cell? ⟨wr.heap.size, 1, none⟩ = some (.int .i64 l.cs[k].lo) := k3 1 _ rfl
      have g2 : X.cell? ⟨wr.heap.size, 2, none⟩ = some (.int .i64 l.cs[k].hi) := k3 2 _ rfl
      have HB3 := Lib.hid (hbr.trans hB2)
      clear hX k3 hB2 e0 e1 e2
      cases hin : decide (0 ≤ idx (k : Int) out 0)
      · have f0 : X.cell? ⟨w.heap.size, 0, none⟩ = some (.int .i64 l.lo) := HB3.out.cell (HLc.out 0 _ rfl)
        have f1 : X.cell? ⟨w.heap.size, 1, none⟩ = some (.int .i64 l.hi) := HB3.out.cell (HLc.out 1 _ rfl)
        have f2 : X.cell? ⟨w.heap.size, 2, none⟩ = some (.slice A l.gs.length cA) := HB3.out.cell (HLc.out 2 _ rfl)
        have f3 : X.cell? ⟨w.heap.size, 3, none⟩ = some (.slice (some ⟨b, off, none⟩) l.cs.length cC) := HB3.out.cell (HLc.out 3 _ rfl)
        have f4 : X.cell? ⟨w.heap.size + 1, 0, none⟩ = some (.int .i64 c.r) := HB3.out.cell (HCc.out 0 _ rfl)
        have f5 : X.cell? ⟨w.heap.size + 1, 1, none⟩ = some (.int .i64 (c.b 0)) := HB3.out.cell (HCc.out 1 _ rfl)
        have f6 : X.cell? ⟨w.heap.size + 1, 2, none⟩ = some (.int .i64 (c.b 1)) := HB3.out.cell (HCc.out 2 _ rfl)
        have f7 : X.cell? ⟨w.heap.size + 1, 3, none⟩ = some (.int .i64 (c.b 2)) := HB3.out.cell (HCc.out 3 _ rfl)
        have f8 : X.cell? ⟨w.heap.size + 1, 4, none⟩ = some (.int .i64 (c.b 3)) := HB3.out.cell (HCc.out 4 _ rfl)
        go_region_held3 (fun w' => w'.cell? ⟨wr.heap.size, 0, none⟩ = some (.int .i64 l.cs[k].a) ∧ w'.cell? ⟨wr.heap.size, 1, none⟩ = some (.int .i64 l.cs[k].lo) ∧ w'.cell? ⟨wr.heap.size, 2, none⟩ = some (.int .i64 l.cs[k].hi) ∧ w'.cell? ⟨w.heap.size, 0, none⟩ = some (.int .i64 l.lo) ∧ w'.cell? ⟨w.heap.size, 1, none⟩ = some (.int .i64 l.hi) ∧ w'.cell? ⟨w.heap.size, 2, none⟩ = some (.slice A l.gs.length cA) ∧ w'.cell? ⟨w.heap.size, 3, none⟩ = some (.slice (some ⟨b, off, none⟩) l.cs.length cC) ∧ w'.cell? ⟨w.heap.size + 1, 0, none⟩ = some (.int .i64 c.r) ∧ w'.cell? ⟨w.heap.size + 1, 1, none⟩ = some (.int .i64 (c.b 0)) ∧ w'.cell? ⟨w.heap.size + 1, 2, none⟩ = some (.int .i64 (c.b 1)) ∧ w'.cell? ⟨w.heap.size + 1, 3, none⟩ = some (.int .i64 (c.b 2)) ∧ w'.cell? ⟨w.heap.size + 1, 4, none⟩ = some (.int .i64 (c.b 3))) (first | (go_split_ands; refine ⟨?_, ?_, ?_, ?_, ?_, ?_, ?_, ?_, ?_, ?_, ?_, ?_⟩ <;> first | assumption | exact hb1.cell (by assumption) | exact hb2.cell (by assumption))) ((first | (go_at_call 114; refine (Contains_c _ _ _ _ _ (HO.out.grow (hB.trans HB3.out).drew) (by omega)).mono ?_; rintro e w' ⟨rfl, rfl⟩) | (go_at_call 112; refine (owedX_c HV.out HK.out (HL.out.g.grow (hB.trans HB3.out).drew) hc0 hc1).mono ?_; rintro e w1 ⟨rfl, hb1⟩) | (go_at_call 115; refine (has_c _ _ _ _).mono ?_; rintro e w2 ⟨rfl, hb2⟩)))
        cases hin2 : inB (owed l c l.cs[k].a.toNat) l.cs[k].lo l.cs[k].hi
        · go_wp2
          go_ret
          exact ⟨ret_b (by have h := HR; unfold Hid at h; rw [HD.out, rightBut, hin, rightC, hin2] at h; simpa using h), hB.trans (HB3.out.trans ((G.refl _).drew.trans (hb1.trans hb2)))⟩
        · go_wp2
          go_roundw
          case rel => exact ⟨k + 1, by omega, by go_num, by have h := HR; unfold Hid at h ⊢; rw [HD.out, rightBut, hin, rightC, hin2] at h; simpa using h, HB3.out.trans ((G.refl _).drew.trans (hb1.trans hb2))⟩
          case measure => simp [intOf]; omega
      · go_quiet ((go_at_call 114; exact quiet_left (Contains_c _ _ _ _ _ (HO.out.grow ((hB.trans HB3.out).drewN _)) (by omega))))
        go_wp2
        go_roundw
        case rel => exact ⟨k + 1, by omega, by go_num, by have h := HR; unfold Hid at h ⊢; rw [HD.out, rightBut, hin] at h; simpa using h, HB3.out.drewN _⟩
        case measure => simp [intOf]; omega
    · go_wp2
      go_ret
      exact ⟨ret_b (by have h := HR; unfold Hid at h; rw [List.drop_eq_nil_of_le (by omega), rightBut] at h; exact h), hB.trans hbr⟩
end Go.Proofs.Ytogdhkecpjndlaa.C
