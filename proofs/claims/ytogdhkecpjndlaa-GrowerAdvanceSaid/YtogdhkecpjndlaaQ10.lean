/- Plain laws: two ledgers whose counts owe alike: one more claim, a wider range, a moved advance. -/
import Derived.Test.YtogdhkecpjndlaaQ9
import Derived.Test.YtogdhkecpjndlaaQ8
set_option linter.unusedSimpArgs false
set_option linter.unusedVariables false
namespace Go.Proofs.Ytogdhkecpjndlaa.C
open Go.RowKit
set_option maxRecDepth 100000

theorem pow32 {l : Led} (hV : Valid l) : 2 ^ l.cs.length ≤ 32 := Nat.pow_le_pow_right (show 0 < 2 by omega) hV.nc
theorem anyB_iff {l : Led} (hV : Valid l) {b : Nat} (hb : b < 2 ^ l.cs.length) : anyB l b = true ↔ ∃ c, isCnt l c = true ∧ ∀ (j : Nat) (h : j < l.cs.length), b.testBit j = false → rightC l c l.cs[j] = true := by
  have h32 := pow32 hV
  have hn := hV.nc
  rw [← anyR_bits hV hb]
  unfold anyR
  rw [List.any_eq_true]
  constructor
  · rintro ⟨c, hc, h⟩
    exact ⟨c, (countsL_mem l c).1 hc, fun j hj hjb => (rightBut_bits (show b < 64 by omega) l.cs 0 (by omega)).1 h j hj (by simpa using hjb)⟩
  · rintro ⟨c, hc, h⟩
    exact ⟨c, (countsL_mem l c).2 hc, (rightBut_bits (show b < 64 by omega) l.cs 0 (by omega)).2 fun j hj hjb => h j hj (by simpa using hjb)⟩
theorem shorter_len {a b : List Int} (h : shorterB a b = true) : a.length ≤ b.length := by
  unfold shorterB at h
  simp only [Bool.or_eq_true, Bool.and_eq_true, decide_eq_true_eq] at h
  omega
theorem leave_le {l : Led} (hV : Valid l) {a : Nat} (ha : a < 2 ^ l.cs.length) (h : anyB l a = true) : (leaveL l).length ≤ (bitsL a).length := by
  obtain ⟨b, hb, e, hB, hm⟩ := leave_facts hV
  rw [e]
  by_cases hab : a = b
  · rw [hab]; omega
  · exact shorter_len (hm a ha h hab)
theorem leave_same {l x : Led} (hV : Valid l) (hX : Valid x) (hn : x.cs.length = l.cs.length) (h : ∀ b, b < 2 ^ l.cs.length → anyB x b = anyB l b) : leaveL x = leaveL l := by
  obtain ⟨b, hb, e, hB, hm⟩ := leave_facts hV
  obtain ⟨a, ha, e2, hA, hm2⟩ := leave_facts hX
  rw [hn] at ha hm2
  have h32 := pow32 hV
  rw [e, e2]
  by_cases hab : a = b
  · rw [hab]
  · have h1 := hm a ha (by rw [← h a ha]; exact hA) hab
    have h2 := hm2 b hb (by rw [h b hb]; exact hB) (fun h => hab h.symm)
    rw [shorter_not (a := a) (b := b) (by omega) (by omega) h1] at h2
    cases h2
theorem len_mod : ∀ (n : Fin 5) (b : Fin 32), b.val < 2 ^ (n.val + 1) → (bitsL (b.val % 2 ^ n.val)).length ≤ (bitsL b.val).length := by decide +kernel
theorem len_add : ∀ (n : Fin 5) (b : Fin 32), b.val < 2 ^ n.val → (bitsL (b.val + 2 ^ n.val)).length = (bitsL b.val).length + 1 := by decide +kernel
theorem bit_add : ∀ (n : Fin 5) (b : Fin 32), b.val < 2 ^ n.val → ∀ j : Fin 5, (b.val + 2 ^ n.val).testBit j.val = if j.val = n.val then true else b.val.testBit j.val := by decide +kernel
theorem dues_congr {x l : Led} (hn : x.gs.length = l.gs.length) (ho : ∀ c k, owed x c k = owed l c k) (c : Cn) : dues x c = dues l c := by
  unfold dues
  rw [hn]
  exact List.map_congr_left fun k _ => ho c k
structure Closer (x l : Led) : Prop where
  vx : Valid x
  vl : Valid l
  ng : x.gs.length = l.gs.length
  ow : ∀ c k, owed x c k = owed l c k
  ax : askErr x true = 0
  al : askErr l true = 0
  sub : ∀ c ∈ truthsL x, c ∈ truthsL l
section
variable {x l : Led}
theorem Closer.due (h : Closer x l) (k : Nat) : (dueB l k).1 ≤ (dueB x k).1 ∧ (dueB x k).2 ≤ (dueB l k).2 ∧ (dueB x k).1 ≤ (dueB x k).2 := by
  obtain ⟨⟨c1, h1, e1⟩, ⟨c2, h2, e2⟩, h3⟩ := due_ends h.ax k
  obtain ⟨-, -, h4⟩ := due_ends h.al k
  have a := h4 c1 (h.sub c1 h1)
  have b := h4 c2 (h.sub c2 h2)
  have c := h3 c1 h1
  rw [h.ow] at e1 e2
  rw [h.ow] at c
  omega
theorem Closer.rate (h : Closer x l) : (rateL l).1 ≤ (rateL x).1 ∧ (rateL x).2 ≤ (rateL l).2 := by
  obtain ⟨⟨c1, h1, e1⟩, ⟨c2, h2, e2⟩, h3⟩ := rate_ends h.ax
  obtain ⟨-, -, h4⟩ := rate_ends h.al
  have a := h4 c1 (h.sub c1 h1)
  have b := h4 c2 (h.sub c2 h2)
  omega
theorem Closer.verdict (h : Closer x l) (k : Nat) (h3 : C.verdict (dueB l k) ≠ 3) : C.verdict (dueB l k) = C.verdict (dueB x k) := by
  have hd := h.due k
  unfold C.verdict at h3 ⊢
  by_cases h1 : 0 ≤ (dueB l k).1
  · rw [if_pos h1, if_pos (by omega)]
  · rw [if_neg h1] at h3 ⊢
    by_cases h2 : (dueB l k).2 < 0
    · rw [if_pos h2, if_neg (by omega), if_pos (by omega)]
    · rw [if_neg h2] at h3
      exact absurd rfl h3
theorem Closer.full (h : Closer x l) : fullL x ≤ fullL l := by
  obtain ⟨h1, -⟩ := full_ends h.ax
  obtain ⟨-, h2⟩ := full_ends h.al
  have h0 := (full_facts h.al).1
  rcases h1 with e | ⟨c, hc, e⟩
  · omega
  · have := h2 c (h.sub c hc)
    rw [dues_congr h.ng h.ow] at e
    omega
theorem Closer.least (h : Closer x l) {sum : Int} (h0 : 0 ≤ sum) (h1 : sum ≤ 9999) {k : Nat} (hk : k < l.gs.length) : (leastL l sum).getD k 0 ≤ (leastL x sum).getD k 0 := by
  obtain ⟨-, -, -, c, hc, e⟩ := leastL_get h.ax h0 h1 (k := k) (by rw [h.ng]; exact hk)
  obtain ⟨-, -, h2, -⟩ := leastL_get h.al h0 h1 hk
  rw [e, dues_congr h.ng h.ow]
  exact h2 c (h.sub c hc)
end

-- one more claim
def moreL (l : Led) (m : T3) : Led := withC l (l.cs ++ [m])
theorem more_owed (l : Led) (m : T3) (c : Cn) (k : Nat) : owed (moreL l m) c k = owed l c k := rfl
theorem more_cnt (l : Led) (m : T3) (c : Cn) : isCnt (moreL l m) c = isCnt l c := rfl
theorem more_right (l : Led) (m : T3) (c : Cn) (y : T3) : rightC (moreL l m) c y = rightC l c y := rfl
theorem more_len {l : Led} (hV : Valid l) {m : T3} (hX : Valid (moreL l m)) : (leaveL l).length ≤ (leaveL (moreL l m)).length ∧ (leaveL (moreL l m)).length ≤ (leaveL l).length + 1 := by
  have hxn : (moreL l m).cs.length = l.cs.length + 1 := by simp [moreL, withC]
  have hn5 := hX.nc
  have h32 := pow32 hX
  rw [hxn] at h32
  have hp : 2 ^ (l.cs.length + 1) = 2 ^ l.cs.length * 2 := Nat.pow_succ ..
  obtain ⟨b, hb, e, hB, -⟩ := leave_facts hX
  obtain ⟨a, ha, e2, hA, -⟩ := leave_facts hV
  constructor
  · obtain ⟨c, hc, hr⟩ := (anyB_iff hX hb).1 hB
    rw [hxn] at hb
    rw [e]
    have hm : b % 2 ^ l.cs.length < 2 ^ l.cs.length := Nat.mod_lt _ (Nat.two_pow_pos _)
    refine Nat.le_trans (leave_le hV hm ?_) (len_mod ⟨l.cs.length, by omega⟩ ⟨b, by omega⟩ hb)
    refine (anyB_iff hV hm).2 ⟨c, hc, fun j hj hjb => ?_⟩
    rw [Nat.testBit_mod_two_pow] at hjb
    have hjb2 : b.testBit j = false := by simpa [hj] using hjb
    have h1 := hr j (by omega) hjb2
    have h2 : (moreL l m).cs[j]'(by omega) = l.cs[j] := List.getElem_append_left hj
    rw [h2] at h1
    exact h1
  · obtain ⟨c, hc, hr⟩ := (anyB_iff hV ha).1 hA
    rw [e2, ← len_add ⟨l.cs.length, by omega⟩ ⟨a, by omega⟩ ha]
    have hlt : a + 2 ^ l.cs.length < 2 ^ (moreL l m).cs.length := by rw [hxn]; omega
    refine leave_le hX hlt ?_
    refine (anyB_iff hX hlt).2 ⟨c, hc, fun j hj hjb => ?_⟩
    have h1 := bit_add ⟨l.cs.length, by omega⟩ ⟨a, by omega⟩ ha ⟨j, by omega⟩
    simp only at h1
    rw [h1] at hjb
    by_cases hjn : j = l.cs.length
    · rw [if_pos hjn] at hjb; cases hjb
    · rw [if_neg hjn] at hjb
      have hj2 : j < l.cs.length := by omega
      have h2 : (moreL l m).cs[j]'hj = l.cs[j] := List.getElem_append_left hj2
      rw [h2]
      exact hr j hj2 hjb
theorem more_closer {l : Led} (hV : Valid l) {m : T3} (hX : Valid (moreL l m)) (h : leaveL (moreL l m) = []) : Closer (moreL l m) l := by
  have h1 := leave_none' hX h
  have hs : ∀ c ∈ truthsL (moreL l m), c ∈ truthsL l := fun c hc => by
    obtain ⟨a, b⟩ := truth_of.1 hc
    refine truth_of.2 ⟨a, List.all_eq_true.2 fun y hy => List.all_eq_true.1 b y ?_⟩
    show y ∈ l.cs ++ [m]
    exact List.mem_append_left _ hy
  obtain ⟨c, hc⟩ := List.exists_mem_of_ne_nil _ h1
  exact ⟨hX, hV, rfl, fun _ _ => rfl, askErr_of hX h1, askErr_of hV (List.ne_nil_of_mem (hs c hc)), hs⟩

-- wider
structure Wider (l x : Led) : Prop where
  lo : x.lo ≤ l.lo
  hi : l.hi ≤ x.hi
  ng : x.gs.length = l.gs.length
  nc : x.cs.length = l.cs.length
  g : ∀ k (h : k < x.gs.length) (h' : k < l.gs.length), x.gs[k].a = l.gs[k].a ∧ x.gs[k].lo ≤ l.gs[k].lo ∧ l.gs[k].hi ≤ x.gs[k].hi
  c : ∀ k (h : k < x.cs.length) (h' : k < l.cs.length), x.cs[k].a = l.cs[k].a ∧ x.cs[k].lo ≤ l.cs[k].lo ∧ l.cs[k].hi ≤ x.cs[k].hi
theorem okBs_of : ∀ (bs : List Int) (gs : List T3), bs.length = gs.length → (∀ (k : Nat) (h1 : k < bs.length) (h2 : k < gs.length), inB bs[k] gs[k].lo gs[k].hi = true) → okBs bs gs = true
  | [], _, _, _ => okBs_nil _
  | b :: bs, g :: gs, hl, h => by
    rw [okBs, Bool.and_eq_true]
    exact ⟨h 0 (by simp) (by simp), okBs_of bs gs (by simpa using hl) fun k h1 h2 => h (k + 1) (Nat.succ_lt_succ h1) (Nat.succ_lt_succ h2)⟩
section
variable {l x : Led}
theorem Wider.adv (h : Wider l x) (k : Nat) : x.adv k = l.adv k := by
  by_cases hk : k < l.gs.length
  · rw [Led.adv_eq hk, Led.adv_eq (by rw [h.ng]; exact hk)]
    exact (h.g k _ hk).1
  · unfold Led.adv
    rw [List.getD_eq_getElem?_getD, List.getD_eq_getElem?_getD, List.getElem?_eq_none (by rw [h.ng]; omega), List.getElem?_eq_none (by omega)]
theorem Wider.ow (h : Wider l x) (c : Cn) (k : Nat) : owed x c k = owed l c k := by unfold owed; rw [h.adv]
theorem Wider.cnt (h : Wider l x) {c : Cn} (hc : isCnt l c = true) : isCnt x c = true := by
  simp only [isCnt, Bool.and_eq_true, decide_eq_true_eq] at hc ⊢
  obtain ⟨h0, h1, h2⟩ := hc
  have h3 := inB_iff.1 h0
  have a := h.lo
  have b := h.hi
  refine ⟨inB_iff.2 (by omega), by rw [h.ng]; exact h1, okBs_of _ _ (by rw [h.ng]; exact h1) fun k h4 h5 => ?_⟩
  have h6 := inB_iff.1 (okBs_at c.bs l.gs k h4 (by omega) h2)
  have h7 := h.g k h5 (by omega)
  exact inB_iff.2 (by omega)
theorem Wider.right (h : Wider l x) {c : Cn} {k : Nat} (h1 : k < x.cs.length) (h2 : k < l.cs.length) (hr : rightC l c l.cs[k] = true) : rightC x c x.cs[k] = true := by
  unfold rightC at hr ⊢
  have h3 := h.c k h1 h2
  rw [h.ow, h3.1]
  have := inB_iff.1 hr
  exact inB_iff.2 (by omega)
theorem Wider.len (h : Wider l x) (hV : Valid l) (hX : Valid x) : (leaveL x).length ≤ (leaveL l).length := by
  obtain ⟨a, ha, e, hA, -⟩ := leave_facts hV
  obtain ⟨c, hc, hr⟩ := (anyB_iff hV ha).1 hA
  rw [e]
  have hlt : a < 2 ^ x.cs.length := by rw [h.nc]; exact ha
  refine leave_le hX hlt ((anyB_iff hX hlt).2 ⟨c, h.cnt hc, fun j hj hjb => ?_⟩)
  have hj2 : j < l.cs.length := by rw [← h.nc]; exact hj
  exact h.right hj hj2 (hr j hj2 hjb)
theorem Wider.closer (h : Wider l x) (hV : Valid l) (hX : Valid x) (hl : leaveL l = []) : Closer l x := by
  have h1 := leave_none' hV hl
  have hs : ∀ c ∈ truthsL l, c ∈ truthsL x := fun c hc => by
    obtain ⟨a, b⟩ := truth_of.1 hc
    refine truth_of.2 ⟨h.cnt a, List.all_eq_true.2 fun y hy => ?_⟩
    obtain ⟨k, hk, rfl⟩ := List.getElem_of_mem hy
    have hk2 : k < l.cs.length := by rw [← h.nc]; exact hk
    exact h.right hk hk2 (List.all_eq_true.1 b _ (List.getElem_mem hk2))
  obtain ⟨c, hc⟩ := List.exists_mem_of_ne_nil _ h1
  exact ⟨hV, hX, h.ng.symm, fun c k => (h.ow c k).symm, askErr_of hV h1, askErr_of hX (List.ne_nil_of_mem (hs c hc)), hs⟩
end
theorem wider_rate (l : Led) {lo hi : Int} (h1 : lo ≤ l.lo) (h2 : l.hi ≤ hi) : Wider l { l with lo := lo, hi := hi } :=
  ⟨h1, h2, rfl, rfl, fun k _ _ => ⟨rfl, Int.le_refl _, Int.le_refl _⟩, fun k _ _ => ⟨rfl, Int.le_refl _, Int.le_refl _⟩⟩
theorem set_wide {xs : List T3} {i : Nat} (hi : i < xs.length) {v : T3} (hv : v.a = xs[i].a ∧ v.lo ≤ xs[i].lo ∧ xs[i].hi ≤ v.hi) (k : Nat) (h : k < (xs.set i v).length) (h' : k < xs.length) : (xs.set i v)[k].a = xs[k].a ∧ (xs.set i v)[k].lo ≤ xs[k].lo ∧ xs[k].hi ≤ (xs.set i v)[k].hi := by
  rw [List.getElem_set]
  by_cases hik : i = k
  · subst hik
    rw [if_pos rfl]
    exact hv
  · rw [if_neg hik]
    exact ⟨rfl, Int.le_refl _, Int.le_refl _⟩
theorem wider_g (l : Led) {i : Nat} (hi : i < l.gs.length) {v : T3} (hv : v.a = l.gs[i].a ∧ v.lo ≤ l.gs[i].lo ∧ l.gs[i].hi ≤ v.hi) : Wider l { l with gs := l.gs.set i v } :=
  ⟨Int.le_refl _, Int.le_refl _, List.length_set, rfl, set_wide hi hv, fun k _ _ => ⟨rfl, Int.le_refl _, Int.le_refl _⟩⟩
theorem wider_c' (l : Led) {i : Nat} (hi : i < l.cs.length) {v : T3} (hv : v.a = l.cs[i].a ∧ v.lo ≤ l.cs[i].lo ∧ l.cs[i].hi ≤ v.hi) : Wider l { l with cs := l.cs.set i v } :=
  ⟨Int.le_refl _, Int.le_refl _, rfl, List.length_set, fun k _ _ => ⟨rfl, Int.le_refl _, Int.le_refl _⟩, set_wide hi hv⟩

-- a moved advance
def moveC (g n : Int) (c : T3) : T3 := if c.a = g then ⟨c.a, c.lo - n, c.hi - n⟩ else c
def moveG (l : Led) (g : Nat) (n : Int) : List T3 := l.gs.set g ⟨l.adv g + n, (l.gs.getD g default).lo, (l.gs.getD g default).hi⟩
def moveL (l : Led) (g : Nat) (n : Int) : Led := ⟨l.lo, l.hi, moveG l g n, l.cs.map (moveC g n)⟩
def offBy (g : Nat) (n : Int) (k : Nat) : Int := if k = g then n else 0
theorem choices_congr : ∀ (gs hs : List T3), gs.length = hs.length → (∀ k (h : k < gs.length) (h' : k < hs.length), gs[k].lo = hs[k].lo ∧ gs[k].hi = hs[k].hi) → choices gs = choices hs
  | [], [], _, _ => rfl
  | g :: gs, h :: hs, hl, hh => by
    have h0 := hh 0 (by simp) (by simp)
    simp only [List.getElem_cons_zero] at h0
    rw [choices, choices, choices_congr gs hs (by simpa using hl) fun k a b => hh (k + 1) (Nat.succ_lt_succ a) (Nat.succ_lt_succ b)]
    unfold steps sz
    rw [h0.1, h0.2]
section
variable {l : Led} {g : Nat} {n : Int}
theorem move_ng : (moveL l g n).gs.length = l.gs.length := by simp [moveL, moveG]
theorem move_nc : (moveL l g n).cs.length = l.cs.length := by simp [moveL]
theorem move_counts (hg : g < l.gs.length) : countsL (moveL l g n) = countsL l := by
  have : choices (moveL l g n).gs = choices l.gs := choices_congr _ _ move_ng fun k h h' => by
    have hs : ∀ (v : T3) (h2 : k < (l.gs.set g v).length), v.lo = (l.gs.getD g default).lo → v.hi = (l.gs.getD g default).hi → (l.gs.set g v)[k].lo = l.gs[k].lo ∧ (l.gs.set g v)[k].hi = l.gs[k].hi := fun v h2 e1 e2 => by
      rw [List.getElem_set]
      by_cases hk : g = k
      · subst hk
        rw [if_pos rfl, e1, e2]
        simp [List.getD, hg]
      · rw [if_neg hk]
        exact ⟨rfl, rfl⟩
    exact hs _ h rfl rfl
  unfold countsL countsAt
  rw [this]
  rfl
theorem move_adv (hg : g < l.gs.length) (k : Nat) : (moveL l g n).adv k = l.adv k + offBy g n k := by
  unfold offBy
  show ((moveG l g n).getD k default).a = _
  unfold moveG
  rw [List.getD_eq_getElem?_getD, List.getElem?_set]
  by_cases hk : g = k
  · subst hk
    simp [hg]
  · have hk2 : ¬ k = g := fun h => hk h.symm
    simp [hk, hk2, Led.adv, List.getD]
theorem move_owed (hg : g < l.gs.length) (c : Cn) (k : Nat) : owed (moveL l g n) c k = owed l c k - offBy g n k := by
  unfold owed
  rw [move_adv hg]
  omega
theorem move_right (hg : g < l.gs.length) (c : Cn) {y : T3} (hy : 0 ≤ y.a) : rightC (moveL l g n) c (moveC g n y) = rightC l c y := by
  unfold rightC moveC
  by_cases h : y.a = (g : Int)
  · rw [if_pos h]
    simp only [move_owed hg]
    rw [show offBy g n y.a.toNat = n by unfold offBy; rw [if_pos (by omega)]]
    rw [Bool.eq_iff_iff, inB_iff, inB_iff]
    omega
  · rw [if_neg h, move_owed hg, show offBy g n y.a.toNat = 0 by unfold offBy; rw [if_neg (by omega)]]
    simp
theorem move_truths (hV : Valid l) (hg : g < l.gs.length) : truthsL (moveL l g n) = truthsL l := by
  unfold truthsL
  rw [move_counts hg]
  congr 1
  funext c
  unfold okL
  rw [rightBut_nil, rightBut_nil]
  show (l.cs.map (moveC g n)).all (rightC (moveL l g n) c) = _
  rw [List.all_map]
  have : ∀ xs : List T3, (∀ y ∈ xs, 0 ≤ y.a) → xs.all (rightC (moveL l g n) c ∘ moveC g n) = xs.all (rightC l c) := by
    intro xs
    induction xs with
    | nil => intro _; rfl
    | cons y ys ih =>
      intro h
      rw [List.all_cons, List.all_cons, ih fun z hz => h z (by simp [hz])]
      congr 1
      exact move_right hg c (h y (by simp))
  exact this l.cs fun y hy => (hV.c y hy).1
theorem move_leave (hV : Valid l) (hX : Valid (moveL l g n)) (hg : g < l.gs.length) : leaveL (moveL l g n) = leaveL l := by
  refine leave_same hV hX move_nc fun b hb => ?_
  have hb2 : b < 2 ^ (moveL l g n).cs.length := by rw [move_nc]; exact hb
  have hcn : ∀ c, isCnt (moveL l g n) c = isCnt l c := fun c => by
    rw [Bool.eq_iff_iff, ← countsL_mem, ← countsL_mem, move_counts hg]
  have hrt : ∀ c (j : Nat) (h : j < (moveL l g n).cs.length) (h' : j < l.cs.length), rightC (moveL l g n) c (moveL l g n).cs[j] = rightC l c l.cs[j] := fun c j h h' => by
    have : (moveL l g n).cs[j] = moveC g n l.cs[j] := by simp [moveL]
    rw [this]
    exact move_right hg c (hV.c _ (List.getElem_mem h')).1
  rw [Bool.eq_iff_iff, anyB_iff hX hb2, anyB_iff hV hb]
  constructor
  · rintro ⟨c, hc, h⟩
    refine ⟨c, by rw [← hcn]; exact hc, fun j hj hjb => ?_⟩
    rw [← hrt c j (by rw [move_nc]; exact hj) hj]
    exact h j _ hjb
  · rintro ⟨c, hc, h⟩
    refine ⟨c, by rw [hcn]; exact hc, fun j hj hjb => ?_⟩
    rw [hrt c j hj (by rw [← move_nc (g := g) (n := n)]; exact hj)]
    exact h j _ hjb
theorem move_ask (hV : Valid l) (hX : Valid (moveL l g n)) (hg : g < l.gs.length) : askErr (moveL l g n) true = askErr l true := by
  unfold askErr
  rw [fault_of hV, fault_of hX, move_truths hV hg]
theorem move_rate (hV : Valid l) (hX : Valid (moveL l g n)) (hg : g < l.gs.length) : rateL (moveL l g n) = rateL l := by
  unfold rateL
  rw [move_ask hV hX hg, move_truths hV hg]
theorem boundsF_off (q : Cn → Int) (d : Int) : ∀ (ts : List Cn) (r : Int × Int), boundsF (fun c => q c - d) (r.1 - d, r.2 - d) ts = ((boundsF q r ts).1 - d, (boundsF q r ts).2 - d)
  | [], r => rfl
  | t :: ts, r => by
    show boundsF (fun c => q c - d) (widen (r.1 - d, r.2 - d) (q t - d)) ts = ((boundsF q (widen r (q t)) ts).1 - d, (boundsF q (widen r (q t)) ts).2 - d)
    have : widen (r.1 - d, r.2 - d) (q t - d) = ((widen r (q t)).1 - d, (widen r (q t)).2 - d) := by
      unfold widen
      refine Prod.ext ?_ ?_ <;> simp only []
      · split <;> split <;> omega
      · split <;> split <;> omega
    rw [this, boundsF_off q d ts]
theorem move_due (hV : Valid l) (hg : g < l.gs.length) (h : truthsL l ≠ []) (k : Nat) : dueB (moveL l g n) k = ((dueB l k).1 - offBy g n k, (dueB l k).2 - offBy g n k) := by
  unfold dueB
  rw [move_truths hV hg]
  have : (fun c => owed (moveL l g n) c k) = fun c => owed l c k - offBy g n k := by
    funext c
    exact move_owed hg c k
  rw [this]
  cases ht : truthsL l with
  | nil => exact absurd ht h
  | cons t ts => exact boundsF_off (fun c => owed l c k) (offBy g n k) (t :: ts) (owed l t k, owed l t k)
end
end Go.Proofs.Ytogdhkecpjndlaa.C
