/- Plain laws of claims: which ledgers with some of the claims have a truth. -/
import Derived.Test.YtogdhkecpjndlaaS1
set_option linter.unusedSimpArgs false
set_option linter.unusedVariables false
namespace Go.Proofs.Ytogdhkecpjndlaa.C
set_option maxRecDepth 100000

theorem fault_of {l : Led} (h : Valid l) : fault l = 0 := by
  have h1 := isB_iff.2 ⟨h.r0, h.r1, h.r2⟩
  have h2 : l.gs.all okG = true := List.all_eq_true.2 fun g hg => okG_iff.2 (by have := h.g g hg; omega)
  have h3 : l.cs.all (okC l.gs.length) = true := List.all_eq_true.2 fun c hc => okC_iff.2 (by have := h.c c hc; omega)
  have := h.ng
  have := h.nc
  have := h.m
  unfold fault
  rw [if_neg (by omega), h1, h2, h3, if_neg (by simp), if_neg (by omega)]
theorem anyR_iff {l : Led} : anyR l [] = true ↔ truthsL l ≠ [] := by
  unfold anyR truthsL okL
  rw [List.any_eq_true, Ne, List.filter_eq_nil_iff]
  constructor
  · rintro ⟨c, hc, h⟩ hn
    exact hn c hc h
  · intro h
    apply Classical.byContradiction
    intro hn
    exact h fun c hc h' => hn ⟨c, hc, h'⟩
theorem someC_sub (b : Nat) : ∀ (xs : List T3) (i : Nat), ∀ c ∈ someC b xs i, c ∈ xs
  | [], _, c, h => by cases h
  | x :: xs, i, c, h => by
    rw [someC] at h
    split at h
    · rcases List.mem_cons.1 h with rfl | h
      · exact List.mem_cons_self ..
      · exact List.mem_cons_of_mem _ (someC_sub b xs (i + 1) c h)
    · exact List.mem_cons_of_mem _ (someC_sub b xs (i + 1) c h)
theorem someL_valid {l : Led} (hV : Valid l) (b : Nat) : Valid (someL l b) :=
  valid_with hV (someC_sub b l.cs 0) (by have := someC_len b l.cs 0; have := hV.nc; omega)
/-- The error of a ledger without fault. -/
theorem askErr_any {l : Led} (hV : Valid l) : askErr l true = if anyR l [] = true then 0 else 11 := by
  unfold askErr
  rw [if_pos (fault_of hV), if_pos rfl]
  by_cases h : truthsL l = []
  · rw [if_pos h, if_neg (fun h' => anyR_iff.1 h' h)]
  · rw [if_neg h, if_pos (anyR_iff.2 h)]
theorem rightBut_nil {l : Led} {c : Cn} : ∀ (xs : List T3) (i : Nat), rightBut l c [] i xs = xs.all (rightC l c)
  | [], _ => rfl
  | x :: xs, i => by rw [rightBut, rightBut_nil xs (i + 1)]; simp [idx]
/-- With some of the claims. -/
theorem anyR_some {l : Led} {b : Nat} : anyR (someL l b) [] = (countsL l).any fun c => (someC b l.cs 0).all (rightC l c) := by
  unfold anyR
  show (countsL l).any _ = _
  congr 1
  funext c
  rw [rightBut_nil]
  rfl
theorem someC_all {b : Nat} {p : T3 → Bool} : ∀ (xs : List T3) (i : Nat), (someC b xs i).all p = true ↔ ∀ (j : Nat) (h : j < xs.length), b.testBit (i + j) = true → p xs[j] = true
  | [], i => by simp [someC]
  | x :: xs, i => by
    have ih := someC_all (b := b) (p := p) xs (i + 1)
    have key : (∀ (j : Nat) (h : j < (x :: xs).length), b.testBit (i + j) = true → p (x :: xs)[j] = true) ↔ (b.testBit i = true → p x = true) ∧ ∀ (j : Nat) (h : j < xs.length), b.testBit (i + 1 + j) = true → p xs[j] = true := by
      constructor
      · intro h
        exact ⟨fun hb => h 0 (by simp) hb, fun j hj hb => h (j + 1) (by simpa using hj) (by rwa [show i + (j + 1) = i + 1 + j by omega])⟩
      · rintro ⟨h0, h1⟩ j hj hb
        cases j with
        | zero => exact h0 hb
        | succ j => exact h1 j (by simpa using hj) (by rwa [show i + 1 + j = i + (j + 1) by omega])
    rw [key, ← ih, someC]
    by_cases hb : b.testBit i = true
    · rw [if_pos hb, List.all_cons, Bool.and_eq_true]
      exact ⟨fun h => ⟨fun _ => h.1, h.2⟩, fun h => ⟨h.1 hb, h.2⟩⟩
    · rw [if_neg hb]
      exact ⟨fun h => ⟨fun h' => absurd h' hb, h⟩, fun h => h.2⟩
theorem someC_pow (m : Nat) : ∀ (xs : List T3) (i : Nat), someC (2 ^ (i + m) - 1) xs i = xs.take m
  | [], i => by simp [someC]
  | x :: xs, i => by
    cases m with
    | zero =>
      have : ∀ (ys : List T3) (j : Nat), i ≤ j → someC (2 ^ (i + 0) - 1) ys j = [] := by
        intro ys
        induction ys with
        | nil => intro j _; rfl
        | cons y ys ih => intro j hj; rw [someC, if_neg (by rw [Nat.testBit_two_pow_sub_one]; simp; omega)]; exact ih (j + 1) (by omega)
      rw [this _ i (Nat.le_refl _)]
      rfl
    | succ m =>
      have := someC_pow m xs (i + 1)
      rw [show i + 1 + m = i + (m + 1) by omega] at this
      rw [someC, if_pos (by rw [Nat.testBit_two_pow_sub_one]; simp), this, List.take_succ_cons]
theorem some_take {l : Led} (n : Nat) : someL l (2 ^ n - 1) = withC l (l.cs.take n) := by
  have := someC_pow n l.cs 0
  rw [Nat.zero_add] at this
  unfold someL
  rw [this]

theorem counts_any {l : Led} (hV : Valid l) (h : l.cs = []) : anyR l [] = true := anyR_all hV [] (fun j hj => by rw [h] at hj; simp at hj)
theorem withC_self {l : Led} : withC l l.cs = l := rfl

theorem firstG_none {l : Led} : ∀ (is : List Nat), (firstG l is).2 ≠ 0 → (firstG l is).2 = 7 ∧ ∀ i ∈ is, anyR (headC l i) [] = true
  | [], _ => ⟨rfl, fun i hi => by cases hi⟩
  | i :: is, h => by
    rw [firstG] at h ⊢
    split at h
    · rename_i h1
      rw [if_pos h1]
      have := firstG_none is h
      exact ⟨this.1, fun j hj => by
        rcases List.mem_cons.1 hj with rfl | hj
        · exact h1
        · exact this.2 j hj⟩
    · exact absurd rfl h
theorem firstG_some {l : Led} (m : Nat) : ∀ (n i : Nat), (firstG l (List.range' i n)).2 = 0 → (∀ j : Nat, m ≤ j → j < i → anyR (headC l j) [] = true) → ∃ k : Nat, (firstG l (List.range' i n)).1 = k ∧ i ≤ k ∧ k < i + n ∧ anyR (headC l k) [] = false ∧ ∀ j : Nat, m ≤ j → j < k → anyR (headC l j) [] = true
  | 0, i, h, _ => by simp [firstG] at h
  | n + 1, i, h, hp => by
    rw [List.range'_succ, firstG] at h ⊢
    split at h
    · rename_i h1
      rw [if_pos h1]
      obtain ⟨k, e, h2, h3, h4, h5⟩ := firstG_some m n (i + 1) h (fun j hm hj => by
        by_cases hj' : j = i
        · subst hj'; exact h1
        · exact hp j hm (by omega))
      exact ⟨k, e, by omega, by omega, h4, h5⟩
    · rename_i h1
      rw [if_neg h1]
      exact ⟨i, rfl, by omega, by omega, by simpa using h1, hp⟩
/-- What GrowerFirst asks. -/
theorem first_none {l : Led} (hV : Valid l) (h : (firstL l).2 ≠ 0) : (firstL l).2 = 7 ∧ askErr l true = 0 := by
  unfold firstL at h ⊢
  rw [if_pos (fault_of hV)] at h ⊢
  obtain ⟨h1, h2⟩ := firstG_none _ h
  refine ⟨h1, ?_⟩
  rw [askErr_any hV, if_pos]
  by_cases h0 : l.cs = []
  · exact counts_any hV h0
  · have hl : 0 < l.cs.length := List.length_pos_iff.2 h0
    have := h2 (l.cs.length - 1) (List.mem_range.2 (by omega))
    rwa [headC, show l.cs.length - 1 + 1 = l.cs.length by omega, List.take_length, withC_self] at this
theorem first_some {l : Led} (hV : Valid l) (h : (firstL l).2 = 0) : ∃ k : Nat, (firstL l).1 = k ∧ k < l.cs.length ∧ askErr (someL l (2 ^ k - 1)) true = 0 ∧ askErr (someL l (2 ^ (k + 1) - 1)) true = 11 := by
  unfold firstL at h ⊢
  rw [if_pos (fault_of hV)] at h ⊢
  rw [List.range_eq_range'] at h ⊢
  obtain ⟨k, e, -, h2, h3, h4⟩ := firstG_some 0 _ _ h (fun j _ hj => by omega)
  refine ⟨k, e, by omega, ?_, ?_⟩
  · rw [askErr_any (someL_valid hV _), if_pos]
    rw [some_take]
    cases k with
    | zero => exact counts_any (l := withC l []) (valid_with hV (fun c h => by cases h) (by simp)) rfl
    | succ k => exact h4 k (by omega) (by omega)
  · rw [askErr_any (someL_valid hV _), if_neg]
    rw [some_take]
    rw [show withC l (l.cs.take (k + 1)) = headC l k from rfl, h3]
    decide
end Go.Proofs.Ytogdhkecpjndlaa.C
