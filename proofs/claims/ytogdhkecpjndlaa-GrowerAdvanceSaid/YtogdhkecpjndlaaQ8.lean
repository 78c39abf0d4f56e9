/- Plain laws: the reference's lists of what is right with each count, and what it leaves out. -/
import Derived.Test.YtogdhkecpjndlaaQ6
set_option linter.unusedSimpArgs false
set_option linter.unusedVariables false
namespace Go.Proofs.Ytogdhkecpjndlaa.C
open Go.RowKit
set_option maxRecDepth 100000

def encB : Nat → List Bool → Nat
  | _, [] => 0
  | i, b :: bs => (if b = true then 2 ^ i else 0) + encB (i + 1) bs
def pickB (v : Nat) : List Bool → Nat → List Bool
  | [], _ => []
  | b :: bs, i => if v.testBit i = true then b :: pickB v bs (i + 1) else pickB v bs (i + 1)
def boolLists : Nat → List (List Bool)
  | 0 => [[]]
  | n + 1 => (boolLists n).flatMap fun t => [true :: t, false :: t]
theorem mem_boolLists : ∀ bs : List Bool, bs ∈ boolLists bs.length
  | [] => by simp [boolLists]
  | b :: bs => by
    rw [List.length_cons, boolLists]
    exact List.mem_flatMap.2 ⟨bs, mem_boolLists bs, by cases b <;> simp⟩
theorem can_tab : ∀ n : Fin 6, ((boolLists n.val).all fun bs => (List.range (2 ^ n.val)).all fun v => ((bits BinOp.and IntKind.i64 (encB 0 bs : Int) (v : Int) == (v : Int)) == (pickB v bs 0).all id)) = true := by decide +kernel
theorem rightFrom_enc (l : Led) (c : Cn) : ∀ (xs : List T3) (i : Nat), rightFrom l c i xs = encB i (xs.map (rightC l c))
  | [], _ => rfl
  | x :: xs, i => by rw [rightFrom, rightFrom_enc l c xs, List.map_cons, encB]
theorem someC_pick (v : Nat) (p : T3 → Bool) : ∀ (xs : List T3) (i : Nat), (someC v xs i).all p = (pickB v (xs.map p) i).all id
  | [], _ => rfl
  | x :: xs, i => by
    rw [someC, List.map_cons, pickB]
    split
    · rw [List.all_cons, List.all_cons, someC_pick v p xs]; rfl
    · exact someC_pick v p xs (i + 1)
def refAll (l : Led) : List Int := (refCounts l).map fun c => (rightN l c : Int)
def canB (xs : List Int) (v : Int) : Bool := xs.any fun x => bits BinOp.and IntKind.i64 x v == v
theorem can_some {l : Led} (hV : Valid l) {v : Nat} (hv : v < 2 ^ l.cs.length) : canB (refAll l) v = anyR (someL l v) [] := by
  rw [anyR_some]
  unfold canB refAll
  rw [List.any_map]
  have hkey : ∀ c, ((fun x => bits BinOp.and IntKind.i64 x (v : Int) == (v : Int)) ∘ fun c => (rightN l c : Int)) c = (someC v l.cs 0).all (rightC l c) := fun c => by
    have h1 := can_tab ⟨l.cs.length, by have := hV.nc; omega⟩
    have hm := mem_boolLists (l.cs.map (rightC l c))
    rw [List.length_map] at hm
    have h2 := List.all_eq_true.1 (List.all_eq_true.1 h1 _ hm) v (List.mem_range.2 hv)
    show (bits BinOp.and IntKind.i64 (rightN l c : Int) (v : Int) == (v : Int)) = _
    unfold rightN
    rw [rightFrom_enc, someC_pick]
    exact beq_iff_eq.1 h2
  rw [Bool.eq_iff_iff, List.any_eq_true, List.any_eq_true]
  constructor
  · rintro ⟨c, hc, h⟩
    exact ⟨c, (refCounts_perm hV).mem_iff.1 hc, by rw [← hkey]; exact h⟩
  · rintro ⟨c, hc, h⟩
    exact ⟨c, (refCounts_perm hV).mem_iff.2 hc, by rw [hkey]; exact h⟩
theorem two_lt {i n : Nat} (h : i < n) : 2 ^ i < 2 ^ n := Nat.pow_lt_pow_right (by omega) h
theorem can_one {l : Led} (hV : Valid l) {i : Nat} (h : i < l.cs.length) : canB (refAll l) ((2 ^ i : Nat) : Int) = anyR (oneC l i) [] := by
  rw [can_some hV (two_lt h), some_one]
theorem can_head {l : Led} (hV : Valid l) {i : Nat} (h : i < l.cs.length) : canB (refAll l) ((2 ^ (i + 1) - 1 : Nat) : Int) = anyR (headC l i) [] := by
  have h1 : 2 ^ (i + 1) ≤ 2 ^ l.cs.length := Nat.pow_le_pow_right (by omega) (by omega)
  have h2 : 0 < 2 ^ (i + 1) := Nat.two_pow_pos _
  rw [can_some hV (by omega), some_take]
  rfl
theorem can_but {l : Led} (hV : Valid l) {b : Nat} (hb : b < 2 ^ l.cs.length) : canB (refAll l) ((2 ^ l.cs.length - (b + 1) : Nat) : Int) = anyB l b := by
  rw [can_some hV (by omega)]
  rfl
theorem shorter_not {a b : Nat} (ha : a < 32) (hb : b < 32) (h : shorterB (bitsL b) (bitsL a) = true) : shorterB (bitsL a) (bitsL b) = false := by
  have h1 := List.all_eq_true.1 (List.all_eq_true.1 bits_tri a (List.mem_range.2 ha)) b (List.mem_range.2 hb)
  by_cases hab : a = b
  · subst hab
    have h2 := List.all_eq_true.1 bits_irr a (List.mem_range.2 ha)
    rw [h] at h2
    simp at h2
  · rw [h] at h1
    simp [hab] at h1
    exact h1
theorem shorter_self {a : Nat} (ha : a < 32) : shorterB (bitsL a) (bitsL a) = false := by
  have h2 := List.all_eq_true.1 bits_irr a (List.mem_range.2 ha)
  simpa using h2
theorem firstG_at {l : Led} : ∀ (m i : Nat) {k : Nat}, i ≤ k → k < i + m → (∀ j, i ≤ j → j < k → anyR (headC l j) [] = true) → anyR (headC l k) [] = false → firstG l (List.range' i m) = ((k : Int), 0)
  | 0, i, k, h1, h2, _, _ => by omega
  | m + 1, i, k, h1, h2, h3, h4 => by
    rw [List.range'_succ, firstG]
    by_cases hk : i = k
    · subst hk
      rw [h4]
      simp
    · rw [if_pos (h3 i (by omega) (by omega))]
      exact firstG_at m (i + 1) (by omega) (by omega) (fun j hj hj2 => h3 j (by omega) hj2) h4
theorem firstG_no {l : Led} : ∀ (is : List Nat), (∀ j ∈ is, anyR (headC l j) [] = true) → firstG l is = (0, 7)
  | [], _ => rfl
  | i :: is, h => by
    rw [firstG, if_pos (h i (by simp))]
    exact firstG_no is fun j hj => h j (by simp [hj])
def refFirst (l : Led) : Int := if (firstL l).2 = 0 then (firstL l).1 else -1
theorem refFirst_at {l : Led} (hV : Valid l) {k : Nat} (hk : k < l.cs.length) (h : ∀ j, j < k → anyR (headC l j) [] = true) (h2 : anyR (headC l k) [] = false) : refFirst l = k := by
  have : firstL l = ((k : Int), 0) := by
    unfold firstL
    rw [if_pos (fault_of hV), List.range_eq_range']
    exact firstG_at _ 0 (by omega) (by omega) (fun j _ hj => h j hj) h2
  unfold refFirst
  rw [this]
  rfl
theorem refFirst_no {l : Led} (hV : Valid l) (h : ∀ j, j < l.cs.length → anyR (headC l j) [] = true) : refFirst l = -1 ∧ firstL l = (0, 7) := by
  have : firstL l = (0, 7) := by
    unfold firstL
    rw [if_pos (fault_of hV)]
    exact firstG_no _ fun j hj => h j (List.mem_range.1 hj)
  unfold refFirst
  rw [this]
  exact ⟨rfl, rfl⟩
def bestTo (l : Led) : Nat → Nat
  | 0 => 2 ^ l.cs.length - 1
  | k + 1 => if shorterB (bitsL k) (bitsL (bestTo l k)) = true ∧ anyB l k = true then k else bestTo l k
theorem anyB_full {l : Led} (hV : Valid l) : anyB l (2 ^ l.cs.length - 1) = true := by
  have hp : 0 < 2 ^ l.cs.length := Nat.two_pow_pos _
  unfold anyB
  rw [show 2 ^ l.cs.length - (2 ^ l.cs.length - 1 + 1) = 2 ^ 0 - 1 by simp; omega, some_take, List.take_zero]
  exact counts_any (l := withC l []) (valid_with hV (by simp) (by simp)) rfl
theorem bestTo_spec {l : Led} (hV : Valid l) {b : Nat} (hb : b < 2 ^ l.cs.length) (hB : anyB l b = true) (hm : ∀ a, a < 2 ^ l.cs.length → anyB l a = true → a ≠ b → shorterB (bitsL b) (bitsL a) = true) :
    ∀ k, k ≤ 2 ^ l.cs.length → bestTo l k < 2 ^ l.cs.length ∧ anyB l (bestTo l k) = true ∧ (b < k → bestTo l k = b)
  | 0, _ => by
    have hp : 0 < 2 ^ l.cs.length := Nat.two_pow_pos _
    exact ⟨by show 2 ^ l.cs.length - 1 < _; omega, anyB_full hV, fun h => by omega⟩
  | k + 1, hk => by
    obtain ⟨h1, h2, h3⟩ := bestTo_spec hV hb hB hm k (by omega)
    have h32 : 2 ^ l.cs.length ≤ 2 ^ 5 := Nat.pow_le_pow_right (by omega) hV.nc
    rw [bestTo]
    by_cases hc : shorterB (bitsL k) (bitsL (bestTo l k)) = true ∧ anyB l k = true
    · rw [if_pos hc]
      refine ⟨by omega, hc.2, fun hbk => ?_⟩
      refine Classical.byContradiction fun hne => ?_
      have hbk2 : b < k := by omega
      rw [h3 hbk2] at hc
      have h4 := hm k (by omega) hc.2 hne
      rw [shorter_not (a := k) (b := b) (by omega) (by omega) h4] at hc
      simp at hc
    · rw [if_neg hc]
      refine ⟨h1, h2, fun hbk => ?_⟩
      by_cases hkb : b < k
      · exact h3 hkb
      · obtain rfl : b = k := by omega
        refine Classical.byContradiction fun hne => hc ⟨hm _ h1 h2 hne, hB⟩
theorem bestTo_all {l : Led} (hV : Valid l) : bitsL (bestTo l (2 ^ l.cs.length)) = leaveL l := by
  obtain ⟨b, hb, e, hB, hm⟩ := leave_facts hV
  rw [e, (bestTo_spec hV hb hB hm _ (Nat.le_refl _)).2.2 hb]
theorem bestTo_lt {l : Led} (hV : Valid l) {k : Nat} (hk : k ≤ 2 ^ l.cs.length) : bestTo l k < 2 ^ l.cs.length := by
  obtain ⟨b, hb, e, hB, hm⟩ := leave_facts hV
  exact (bestTo_spec hV hb hB hm k hk).1
theorem or_tab : ∀ (k : Fin 5) (a : Fin 32), bits BinOp.or IntKind.i64 (a.val : Int) ((2 : Int) ^ k.val) = ((a.val ||| 2 ^ k.val : Nat) : Int) := by decide +kernel
theorem and_tab : ∀ (n : Fin 6) (t : Fin 256), bits BinOp.and IntKind.i64 (t.val : Int) ((2 ^ n.val - 1 : Nat) : Int) = ((t.val % 2 ^ n.val : Nat) : Int) := by decide +kernel
theorem andNot_tab : ∀ (n : Fin 6) (b : Fin 32), b.val < 2 ^ n.val → bits BinOp.andNot IntKind.i64 ((2 ^ n.val - 1 : Nat) : Int) (b.val : Int) = ((2 ^ n.val - (b.val + 1) : Nat) : Int) := by decide +kernel
end Go.Proofs.Ytogdhkecpjndlaa.C
