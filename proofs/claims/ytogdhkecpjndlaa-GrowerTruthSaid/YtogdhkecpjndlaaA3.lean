/- A ledger's copy with lists of its own. -/
import Derived.Test.YtogdhkecpjndlaaA2
import Derived.Test.YtogdhkecpjndlaaGH
import Derived.Test.YtogdhkecpjndlaaF3
import Derived.Test.YtogdhkecpjndlaaGE
set_option linter.unusedSimpArgs false
set_option linter.unusedVariables false
namespace Go.Proofs.Ytogdhkecpjndlaa.C
open Go.RowKit

theorem wpAnyT_two2 {P : Program} {md : Region.Mode} {l : List Oper} {Q : Exit → Act → World → Prop} {S : World → Prop} {m : Nat} {i j : Nat} {oi oj : Oper} {fuel : Nat} {listed : Array Bool} {a : Act} {w : World} (hr : Region.ready md l.toArray listed = [i, j]) (hi : l[i]? = some oi) (hj : l[j]? = some oj)
    (h1 : wpList P l.toArray (Exit.then (fun a' w' => S w' ∧ wpAnyT P md l.toArray Q S m fuel (listed.setIfInBounds i true) a' w') Q) [oi] a w)
    (h2 : wpList P l.toArray (Exit.then (fun a' w' => S w' ∧ wpAnyT P md l.toArray Q S m fuel (listed.setIfInBounds j true) a' w') Q) [oj] a w) : wpAnyT P md l.toArray Q S m (fuel + 1) listed a w :=
  wpAnyT_two hr (by simpa using hi) (by simpa using hj) h1 h2
theorem grown_row2 {a b : World} {n : Nat} (h : a.grownBy b (Value.ownBlock (.slice (some ⟨n, 0, none⟩) 0 0))) : a.grownBy b (some n) := h
theorem own_of_empty2 {n : Nat} {w : World} {e : TypeId} (h : Blk w n e #[]) : Own3 e n w (.slice (some ⟨n, 0, none⟩) 0 0) [] :=
  ⟨rfl, .inr ⟨n, 0, #[], rfl, Nat.le_refl _, h, Nat.le_refl _, by simp [maxLen], rfl, rfl⟩⟩
theorem own_grownBy {w w1 : World} {base e size n : Nat} {v : Value} {cs : List Value} {r : Option Nat} (h : w.ownsRow base e size v n cs) (k : w.grownBy w1 r) (hne : ∀ q, v.ownBlock = some q → r ≠ some q) : w1.ownsRow base e size v n cs :=
  own_block h (fun q hq => k.block q (own_lt h q hq) (fun e => hne q hq e.symm))
theorem own_far {w : World} {base e size n : Nat} {v : Value} {cs : List Value} (h : w.ownsRow base e size v n cs) {p : Addr} (hne : ∀ q, v.ownBlock = some q → q ≠ p.block) (u : Value) : (w.setCell p u).ownsRow base e size v n cs :=
  own_block h (fun q hq => Below.heap_setCell _ _ _ _ (hne q hq))
theorem LBox.far2 {w : World} {n : Nat} {l : Led} {A C : Option Addr} {cA cC : Nat} (h : LBox w n l A C cA cC) {p : Addr} (hp : n ≠ p.block) (v : Value) : LBox (w.setCell p v) n l A C cA cC := by
  obtain ⟨h0, h1, h2, h3⟩ := h
  refine ⟨?_, ?_, ?_, ?_⟩ <;> rw [World.cell?_setCell_other _ _ _ _ (fun h => hp (congrArg Addr.block h).symm)] <;> assumption
structure XB (w : World) (base bx : Nat) (lo hi : Int) (n1 n2 : Nat) (gs cs : List T3) (A1 C1 : Option Addr) (c1 c2 : Nat) : Prop where
  lt : bx < base
  m1 : gs.length = n1
  m2 : cs.length = n2
  blk : Blk w bx 27 #[.int .i64 lo, .int .i64 hi, .slice A1 n1 c1, .slice C1 n2 c2]
  og : Own3 86 base w (.slice A1 n1 c1) gs
  oc : Own3 97 base w (.slice C1 n2 c2) cs
  ne : ∀ q, Value.ownBlock (.slice A1 n1 c1) = some q → Value.ownBlock (.slice C1 n2 c2) ≠ some q
section
variable {w w1 : World} {base bx : Nat} {lo hi : Int} {n1 n2 : Nat} {gs cs : List T3} {A1 C1 : Option Addr} {c1 c2 : Nat}
theorem XB.grow (h : XB w base bx lo hi n1 n2 gs cs A1 C1 c1 c2) (hb : G w w1) : XB w1 base bx lo hi n1 n2 gs cs A1 C1 c1 c2 :=
  ⟨h.lt, h.m1, h.m2, h.blk.grow hb, own_grow h.og hb, own_grow h.oc hb, h.ne⟩
theorem XB.box (h : XB w base bx lo hi n1 n2 gs cs A1 C1 c1 c2) : LBox w bx ⟨lo, hi, gs, cs⟩ A1 C1 c1 c2 := by
  refine LBox.of (t := 27) ?_
  unfold cells4
  simp only [h.m1, h.m2]
  exact h.blk
theorem XB.led (h : XB w base bx lo hi n1 n2 gs cs A1 C1 c1 c2) : LedR w ⟨lo, hi, gs, cs⟩ A1 C1 := by
  obtain ⟨A, c, e, -, hg⟩ := h.og.row
  obtain ⟨A', c', e', -, hc⟩ := h.oc.row
  injection e with e
  injection e' with e'
  subst e
  subst e'
  exact ⟨hg, hc⟩
theorem XB.setRate (h : XB w base bx lo hi n1 n2 gs cs A1 C1 c1 c2) (lo' hi' : Int) : XB ((w.setCell ⟨bx, 0, none⟩ (.int .i64 lo')).setCell ⟨bx, 1, none⟩ (.int .i64 hi')) base bx lo' hi' n1 n2 gs cs A1 C1 c1 c2 :=
  ⟨h.lt, h.m1, h.m2, (h.blk.set 0 (.int .i64 lo')).set 1 (.int .i64 hi'),
    own_far (own_far h.og (fun q hq => by have := own_base h.og q hq; have := h.lt; show q ≠ bx; omega) _) (fun q hq => by have := own_base h.og q hq; have := h.lt; show q ≠ bx; omega) _,
    own_far (own_far h.oc (fun q hq => by have := own_base h.oc q hq; have := h.lt; show q ≠ bx; omega) _) (fun q hq => by have := own_base h.oc q hq; have := h.lt; show q ≠ bx; omega) _, h.ne⟩
theorem XB.openg (h : XB w base bx lo hi n1 n2 gs cs A1 C1 c1 c2) (hne : gs ≠ []) : ∃ g, A1 = some ⟨g, 0, none⟩ ∧ base ≤ g ∧ g < w.heap.size ∧ (∀ j x, gs[j]? = some x → w.cell? ⟨g, j * 3, none⟩ = some (.int .i64 x.a) ∧ w.cell? ⟨g, j * 3 + 1, none⟩ = some (.int .i64 x.lo) ∧ w.cell? ⟨g, j * 3 + 2, none⟩ = some (.int .i64 x.hi)) ∧ (∀ j, w.frozen? ⟨g, j, none⟩ = false) := Own3.open h.og hne
theorem XB.openc (h : XB w base bx lo hi n1 n2 gs cs A1 C1 c1 c2) (hne : cs ≠ []) : ∃ g, C1 = some ⟨g, 0, none⟩ ∧ base ≤ g ∧ g < w.heap.size ∧ (∀ j x, cs[j]? = some x → w.cell? ⟨g, j * 3, none⟩ = some (.int .i64 x.a) ∧ w.cell? ⟨g, j * 3 + 1, none⟩ = some (.int .i64 x.lo) ∧ w.cell? ⟨g, j * 3 + 2, none⟩ = some (.int .i64 x.hi)) ∧ (∀ j, w.frozen? ⟨g, j, none⟩ = false) := Own3.open h.oc hne
theorem XB.seta {g : Nat} (h : XB w base bx lo hi n1 n2 gs cs (some ⟨g, 0, none⟩) C1 c1 c2) {i : Nat} (hi' : i < gs.length) (a : Int) : XB (w.setCell ⟨g, i * 3, none⟩ (.int .i64 a)) base bx lo hi n1 n2 (gs.set i ⟨a, gs[i].lo, gs[i].hi⟩) cs (some ⟨g, 0, none⟩) C1 c1 c2 := by
  have hb : base ≤ g := own_base h.og g rfl
  have hl := h.lt
  exact ⟨h.lt, by rw [List.length_set]; exact h.m1, h.m2, h.blk.far (by show bx ≠ g; omega) _, h.og.seta hi' a, own_far h.oc (fun q hq e => h.ne g rfl (by rw [hq]; exact congrArg some e)) _, h.ne⟩
theorem XB.setg {g : Nat} (h : XB w base bx lo hi n1 n2 gs cs (some ⟨g, 0, none⟩) C1 c1 c2) {i : Nat} (hi' : i < gs.length) (a b : Int) : XB ((w.setCell ⟨g, i * 3 + 1, none⟩ (.int .i64 a)).setCell ⟨g, i * 3 + 2, none⟩ (.int .i64 b)) base bx lo hi n1 n2 (gs.set i ⟨gs[i].a, a, b⟩) cs (some ⟨g, 0, none⟩) C1 c1 c2 := by
  have hb : base ≤ g := own_base h.og g rfl
  have hl := h.lt
  exact ⟨h.lt, by rw [List.length_set]; exact h.m1, h.m2, (h.blk.far (by show bx ≠ g; omega) _).far (by show bx ≠ g; omega) _, h.og.setr hi' a b, own_far (own_far h.oc (fun q hq e => h.ne g rfl (by rw [hq]; exact congrArg some e)) _) (fun q hq e => h.ne g rfl (by rw [hq]; exact congrArg some e)) _, h.ne⟩
theorem XB.setc {g : Nat} (h : XB w base bx lo hi n1 n2 gs cs A1 (some ⟨g, 0, none⟩) c1 c2) {i : Nat} (hi' : i < cs.length) (a b : Int) : XB ((w.setCell ⟨g, i * 3 + 1, none⟩ (.int .i64 a)).setCell ⟨g, i * 3 + 2, none⟩ (.int .i64 b)) base bx lo hi n1 n2 gs (cs.set i ⟨cs[i].a, a, b⟩) A1 (some ⟨g, 0, none⟩) c1 c2 := by
  have hb : base ≤ g := own_base h.oc g rfl
  have hl := h.lt
  have hk : ∀ q, Value.ownBlock (.slice A1 n1 c1) = some q → q ≠ g := fun q hq e => h.ne q hq (by rw [e]; rfl)
  exact ⟨h.lt, h.m1, by rw [List.length_set]; exact h.m2, (h.blk.far (by show bx ≠ g; omega) _).far (by show bx ≠ g; omega) _, own_far (own_far h.og hk _) hk _, h.oc.setr hi' a b, h.ne⟩
end
end Go.Proofs.Ytogdhkecpjndlaa.C
