/- Plain laws of the smallest set, and of the claims that must be struck out. -/
import Derived.Test.YtogdhkecpjndlaaQ5
set_option linter.unusedSimpArgs false
set_option linter.unusedVariables false
namespace Go.Proofs.Ytogdhkecpjndlaa.C
set_option maxRecDepth 100000

def combos (n : Nat) : Nat → Nat → List (List Int)
  | 0, _ => [[]]
  | m + 1, f => (List.range' f (n - m - f)).flatMap fun (i : Nat) => (combos n m (i + 1)).map fun t => (i : Int) :: t
def allSets (n : Nat) : List (List Int) := (List.range' 0 (n + 1)).flatMap fun m => combos n m 0
theorem find?_map' {α β : Type} (f : α → β) (p : β → Bool) (xs : List α) : (xs.map f).find? p = (xs.find? (p ∘ f)).map f := by
  induction xs with
  | nil => rfl
  | cons x xs ih => simp only [List.map_cons, List.find?_cons, Function.comp, ih]; split <;> rfl
theorem find?_flat {α β : Type} (f : α → List β) (p : β → Bool) : ∀ xs : List α, (xs.flatMap f).find? p = xs.findSome? fun x => (f x).find? p
  | [] => rfl
  | x :: xs => by
    rw [List.flatMap_cons, List.find?_append, find?_flat f p xs, List.findSome?_cons]
    cases (f x).find? p <;> rfl
theorem findSome?_congr' {α β : Type} {f g : α → Option β} : ∀ (xs : List α), (∀ x ∈ xs, f x = g x) → xs.findSome? f = xs.findSome? g
  | [], _ => rfl
  | x :: xs, h => by
    rw [List.findSome?_cons, List.findSome?_cons, h x (List.mem_cons_self ..), findSome?_congr' xs fun y hy => h y (List.mem_cons_of_mem _ hy)]
theorem leaveS_combos (l : Led) : ∀ (m : Nat) (out : List Int) (f : Nat), leaveS l m out f = ((combos l.cs.length m f).map fun t => out ++ t).find? (anyR l)
  | 0, out, f => by
    rw [leaveS, combos, List.map_cons, List.map_nil, List.append_nil, List.find?_cons, List.find?_nil]
    cases anyR l out <;> rfl
  | m + 1, out, f => by
    rw [leaveS, combos, List.map_flatMap, find?_flat]
    refine findSome?_congr' _ fun i _ => ?_
    rw [leaveS_combos l m (out ++ [(i : Int)]) (i + 1), List.map_map]
    congr 1
    refine List.map_congr_left fun t _ => ?_
    simp
theorem leaveF_sets (l : Led) : leaveF l = (allSets l.cs.length).find? (anyR l) := by
  unfold leaveF allSets
  rw [find?_flat]
  refine findSome?_congr' _ fun m _ => ?_
  rw [leaveS_combos]
  simp
def bitsL (b : Nat) : List Int := ((List.range 6).filter fun p => b.testBit p).map fun (p : Nat) => (p : Int)
def beforeB : List Int → List Int → Bool
  | a :: xs, b :: ys => if a = b then beforeB xs ys else decide (a < b)
  | [], _ :: _ => true
  | _, [] => false
def shorterB (a b : List Int) : Bool := decide (a.length < b.length) || (decide (a.length = b.length) && beforeB a b)

theorem sets_mem : ∀ n : Fin 6, ((List.range (2 ^ n.val)).all fun b => decide (bitsL b ∈ allSets n.val)) = true := by decide +kernel
theorem sets_bits : ∀ n : Fin 6, ((allSets n.val).all fun o => (List.range (2 ^ n.val)).any fun b => o == bitsL b) = true := by decide +kernel
theorem sets_sorted : ∀ n : Fin 6, (allSets n.val).Pairwise (fun a b => shorterB a b = true) := by decide +kernel
theorem bits_tri : ((List.range 32).all fun a => (List.range 32).all fun b => decide (a = b) || (shorterB (bitsL a) (bitsL b) != shorterB (bitsL b) (bitsL a))) = true := by decide +kernel
theorem bits_irr : ((List.range 32).all fun a => !shorterB (bitsL a) (bitsL a)) = true := by decide +kernel
theorem bits_idx : ∀ b : Fin 64, ∀ j : Fin 6, decide (0 ≤ idx (j.val : Int) (bitsL b.val) 0) = b.val.testBit j.val := by decide +kernel
theorem find?_least {α : Type} {R : α → α → Prop} {p : α → Bool} {o : α} : ∀ {xs : List α}, xs.Pairwise R → xs.find? p = some o → ∀ x ∈ xs, p x = true → x = o ∨ R o x
  | [], _, h, _, _, _ => by simp at h
  | y :: ys, hp, h, x, hx, hpx => by
    rw [List.find?_cons] at h
    cases hy : p y with
    | true =>
      rw [hy] at h
      cases h
      rcases List.mem_cons.1 hx with rfl | hx
      · exact .inl rfl
      · exact .inr (List.rel_of_pairwise_cons hp hx)
    | false =>
      rw [hy] at h
      rcases List.mem_cons.1 hx with rfl | hx
      · rw [hy] at hpx; cases hpx
      · exact find?_least (List.pairwise_cons.1 hp).2 h x hx hpx

/-- Without the claims of bits there is a truth. -/
def anyB (l : Led) (b : Nat) : Bool := anyR (someL l (2 ^ l.cs.length - (b + 1))) []
theorem rightBut_bits {l : Led} {c : Cn} {b : Nat} (hb : b < 64) : ∀ (xs : List T3) (i : Nat), i + xs.length ≤ 5 → (rightBut l c (bitsL b) i xs = true ↔ ∀ (j : Nat) (h : j < xs.length), b.testBit (i + j) = false → rightC l c xs[j] = true)
  | [], i, _ => by simp [rightBut]
  | x :: xs, i, h => by
    simp only [List.length_cons] at h
    have ih := rightBut_bits (l := l) (c := c) hb xs (i + 1) (by omega)
    have key : (∀ (j : Nat) (h : j < (x :: xs).length), b.testBit (i + j) = false → rightC l c (x :: xs)[j] = true) ↔ (b.testBit i = false → rightC l c x = true) ∧ ∀ (j : Nat) (h : j < xs.length), b.testBit (i + 1 + j) = false → rightC l c xs[j] = true := by
      constructor
      · intro h
        exact ⟨fun hb => h 0 (by simp) hb, fun j hj hb => h (j + 1) (by simpa using hj) (by rwa [show i + (j + 1) = i + 1 + j by omega])⟩
      · rintro ⟨h0, h1⟩ j hj hb
        cases j with
        | zero => exact h0 hb
        | succ j => exact h1 j (by simpa using hj) (by rwa [show i + 1 + j = i + (j + 1) by omega])
    have hbi : decide (0 ≤ idx (i : Int) (bitsL b) 0) = b.testBit i := bits_idx ⟨b, hb⟩ ⟨i, by omega⟩
    rw [key, ← ih, rightBut, Bool.and_eq_true, Bool.or_eq_true, hbi]
    cases b.testBit i <;> simp
theorem anyR_bits {l : Led} (hV : Valid l) {b : Nat} (hb : b < 2 ^ l.cs.length) : anyR l (bitsL b) = anyB l b := by
  have hn := hV.nc
  have hb64 : b < 64 := Nat.lt_of_lt_of_le hb (Nat.pow_le_pow_right (n := 2) (by omega) (show l.cs.length ≤ 6 by omega))
  unfold anyB
  rw [anyR_some]
  unfold anyR
  congr 1
  funext c
  rw [Bool.eq_iff_iff, rightBut_bits hb64 l.cs 0 (by omega), someC_all]
  constructor
  · intro h j hj ht
    rw [Nat.zero_add, Nat.testBit_two_pow_sub_succ hb] at ht
    exact h j hj (by rw [Nat.zero_add]; simp at ht; exact ht.2)
  · intro h j hj ht
    refine h j hj ?_
    rw [Nat.zero_add] at ht ⊢
    rw [Nat.testBit_two_pow_sub_succ hb, ht]
    simpa using hj
/-- The smallest set, by bits. -/
theorem leave_facts {l : Led} (hV : Valid l) : ∃ b, b < 2 ^ l.cs.length ∧ leaveL l = bitsL b ∧ anyB l b = true ∧ ∀ a, a < 2 ^ l.cs.length → anyB l a = true → a ≠ b → shorterB (bitsL b) (bitsL a) = true := by
  have hn := hV.nc
  have hs := leaveF_some (fault_of hV)
  obtain ⟨o, ho⟩ := Option.isSome_iff_exists.1 hs
  have hL : leaveL l = o := by unfold leaveL; rw [if_pos (fault_of hV), ho]; rfl
  have ho' := ho
  rw [leaveF_sets] at ho'
  have hmem := List.mem_of_find?_eq_some ho'
  have hany := List.find?_some ho'
  have h1 := List.all_eq_true.1 (sets_bits ⟨l.cs.length, by omega⟩) o hmem
  rw [List.any_eq_true] at h1
  obtain ⟨b, hb, hob⟩ := h1
  have hb : b < 2 ^ l.cs.length := List.mem_range.1 hb
  obtain rfl : o = bitsL b := by simpa using hob
  refine ⟨b, hb, hL, by rw [← anyR_bits hV hb]; exact hany, fun a ha haa hne => ?_⟩
  have hma : bitsL a ∈ allSets l.cs.length := by
    have := List.all_eq_true.1 (sets_mem ⟨l.cs.length, by omega⟩) a (List.mem_range.2 ha)
    simpa using this
  rcases find?_least (sets_sorted ⟨l.cs.length, by omega⟩) ho' (bitsL a) hma (by rw [anyR_bits hV ha]; exact haa) with h | h
  · exfalso
    have hp : 2 ^ l.cs.length ≤ 32 := Nat.pow_le_pow_right (n := 2) (by omega) (show l.cs.length ≤ 5 by omega)
    have h32 := List.all_eq_true.1 (List.all_eq_true.1 bits_tri a (List.mem_range.2 (by omega))) b (List.mem_range.2 (by omega))
    rw [h] at h32
    simp at h32
    exact hne h32
  · exact h

theorem someC_one (i : Nat) : ∀ (xs : List T3) (k : Nat), k ≤ i → someC (2 ^ i) xs k = (xs.drop (i - k)).take 1
  | [], k, _ => by simp [someC]
  | x :: xs, k, h => by
    by_cases hk : k = i
    · subst hk
      have : ∀ (ys : List T3) (j : Nat), k < j → someC (2 ^ k) ys j = [] := by
        intro ys
        induction ys with
        | nil => intro j _; rfl
        | cons y ys ih => intro j hj; rw [someC, if_neg (by rw [Nat.testBit_two_pow]; simp; omega)]; exact ih (j + 1) (by omega)
      rw [someC, if_pos (by rw [Nat.testBit_two_pow]; simp), this _ _ (by omega)]
      simp
    · rw [someC, if_neg (by rw [Nat.testBit_two_pow]; simp; omega), someC_one i xs (k + 1) (by omega), show i - k = (i - (k + 1)) + 1 by omega, List.drop_succ_cons]
theorem some_one {l : Led} (i : Nat) : someL l (2 ^ i) = oneC l i := by
  have := someC_one i l.cs 0 (by omega)
  unfold someL oneC
  rw [this]
  rfl
theorem struckTo_any (l : Led) (k i : Nat) : (struckTo l k).any (fun x => x == (i : Int)) = (decide (i < k) && !anyR (oneC l i) []) := by
  unfold struckTo
  rw [Bool.eq_iff_iff, List.any_eq_true]
  simp only [List.mem_map, List.mem_filter, List.mem_range, Bool.and_eq_true, decide_eq_true_eq]
  constructor
  · rintro ⟨x, ⟨j, ⟨h1, h2⟩, rfl⟩, h3⟩
    have : j = i := by simp at h3; omega
    subst this
    exact ⟨h1, h2⟩
  · rintro ⟨h1, h2⟩
    exact ⟨(i : Int), ⟨i, ⟨h1, h2⟩, rfl⟩, by simp⟩
theorem struckTo_pre (l : Led) (k : Nat) : ∀ (d : Nat), ∃ t, struckTo l (k + d) = struckTo l k ++ t
  | 0 => ⟨[], by simp⟩
  | d + 1 => by
    obtain ⟨t, h⟩ := struckTo_pre l k d
    rw [← Nat.add_assoc, struckTo_succ, h]
    split
    · exact ⟨t, rfl⟩
    · exact ⟨t ++ [((k + d : Nat) : Int)], by simp⟩
theorem struckL_eq {l : Led} (hV : Valid l) : struckL l = struckTo l l.cs.length := by unfold struckL; rw [if_pos (fault_of hV)]
theorem one_valid {l : Led} (hV : Valid l) (i : Nat) : Valid (oneC l i) := by rw [← some_one]; exact someL_valid hV _
/-- What GrowerStruck asks of a claim that must be struck out. -/
theorem struck_yes {l : Led} (hV : Valid l) {i : Nat} (hi : i < l.cs.length) (h : (struckL l).any (fun x => x == (i : Int)) = true) :
    (leaveL l).any (fun x => x == (i : Int)) = true ∧ askErr (someL l (2 ^ i)) true = 11 ∧ (struckTo l (i + 1)).length = (struckTo l i).length + 1 ∧ ∃ h : (struckTo l i).length < (struckL l).length, (struckL l)[(struckTo l i).length] = (i : Int) := by
  rw [struckL_eq hV] at h ⊢
  rw [struckTo_any] at h
  simp only [Bool.and_eq_true, Bool.not_eq_true', decide_eq_true_eq] at h
  obtain ⟨-, h⟩ := h
  have hsucc : struckTo l (i + 1) = struckTo l i ++ [(i : Int)] := by rw [struckTo_succ, if_neg (by rw [h]; decide)]
  obtain ⟨t, ht⟩ := struckTo_pre l (i + 1) (l.cs.length - (i + 1))
  rw [show i + 1 + (l.cs.length - (i + 1)) = l.cs.length by omega, hsucc] at ht
  refine ⟨?_, ?_, by rw [hsucc]; simp, by rw [ht]; simp, by simp [ht]⟩
  · obtain ⟨b, hb, hL, hany, -⟩ := leave_facts hV
    have hn := hV.nc
    have hb64 : b < 64 := Nat.lt_of_lt_of_le hb (Nat.pow_le_pow_right (n := 2) (by omega) (show l.cs.length ≤ 6 by omega))
    rw [hL]
    rw [← anyR_bits hV hb] at hany
    unfold anyR at hany
    obtain ⟨c, hc, hr⟩ := List.any_eq_true.1 hany
    have h3 := (rightBut_bits hb64 l.cs 0 (by omega)).1 hr i hi
    rw [Nat.zero_add] at h3
    cases hbi : b.testBit i with
    | true =>
      rw [List.any_eq_true]
      refine ⟨(i : Int), ?_, by simp⟩
      unfold bitsL
      exact List.mem_map.2 ⟨i, List.mem_filter.2 ⟨List.mem_range.2 (by omega), hbi⟩, rfl⟩
    | false =>
      exfalso
      have h4 := h3 hbi
      have h5 : anyR (oneC l i) [] = true := by
        rw [← some_one, anyR_some, List.any_eq_true]
        refine ⟨c, hc, ?_⟩
        rw [someC_all]
        intro j hj ht
        rw [Nat.testBit_two_pow] at ht
        simp at ht
        subst ht
        exact h4
      rw [h] at h5
      cases h5
  · rw [some_one, askErr_any (one_valid hV i), h]
    rfl
theorem struck_no {l : Led} (hV : Valid l) {i : Nat} (hi : i < l.cs.length) (h : (struckL l).any (fun x => x == (i : Int)) = false) :
    askErr (someL l (2 ^ i)) true = 0 ∧ (struckTo l (i + 1)).length = (struckTo l i).length := by
  rw [struckL_eq hV, struckTo_any, decide_eq_true hi] at h
  have h : anyR (oneC l i) [] = true := by simpa using h
  exact ⟨by rw [some_one, askErr_any (one_valid hV i), h]; rfl, by rw [struckTo_succ, if_pos h]⟩
theorem struck_false {l : Led} (hV : Valid l) (h : struckL l ≠ []) : askErr l true = 11 := by
  rw [struckL_eq hV] at h
  rw [askErr_any hV, if_neg]
  intro ha
  apply h
  unfold struckTo
  rw [List.map_eq_nil_iff, List.filter_eq_nil_iff]
  intro i hi h1
  obtain ⟨c, hc, hr⟩ := List.any_eq_true.1 ha
  rw [rightBut_nil, List.all_eq_true] at hr
  have h5 : anyR (oneC l i) [] = true := by
    rw [← some_one, anyR_some, List.any_eq_true]
    exact ⟨c, hc, List.all_eq_true.2 fun x hx => hr x (someC_sub _ _ _ x hx)⟩
  rw [h5] at h1
  simp at h1
end Go.Proofs.Ytogdhkecpjndlaa.C
