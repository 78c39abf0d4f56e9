/- Plain laws: a count that is right with all claims is within all that the program tells; a known number of bundles. -/
import Derived.Test.YtogdhkecpjndlaaQ7
import Derived.Test.YtogdhkecpjndlaaQ6
import Derived.Test.YtogdhkecpjndlaaW7
set_option linter.unusedSimpArgs false
set_option linter.unusedVariables false
namespace Go.Proofs.Ytogdhkecpjndlaa.C
open Go.RowKit
set_option maxRecDepth 100000

theorem truth_of {l : Led} {c : Cn} : c ∈ truthsL l ↔ isCnt l c = true ∧ l.cs.all (rightC l c) = true := by
  unfold truthsL okL
  rw [List.mem_filter, countsL_mem, rightBut_nil]
theorem short_zero : ∀ b : Fin 32, shorterB (bitsL b.val) (bitsL 0) = false := by decide +kernel
theorem leave_none {l : Led} (hV : Valid l) (h : truthsL l ≠ []) : leaveL l = [] := by
  obtain ⟨b, hb, e, hB, hm⟩ := leave_facts hV
  have h32 : 2 ^ l.cs.length ≤ 2 ^ 5 := Nat.pow_le_pow_right (by omega) hV.nc
  have h0 : anyB l 0 = true := by
    unfold anyB
    rw [show 2 ^ l.cs.length - (0 + 1) = 2 ^ l.cs.length - 1 by omega, some_take, List.take_length, withC_self]
    exact anyR_iff.2 h
  by_cases hb0 : b = 0
  · rw [e, hb0]; rfl
  · have := hm 0 (by omega) h0 (fun h => hb0 h.symm)
    rw [short_zero ⟨b, by omega⟩] at this
    cases this
theorem leave_none' {l : Led} (hV : Valid l) (h : leaveL l = []) : truthsL l ≠ [] := by
  obtain ⟨b, hb, e, hB, hm⟩ := leave_facts hV
  have h32 : 2 ^ l.cs.length ≤ 2 ^ 5 := Nat.pow_le_pow_right (by omega) hV.nc
  have h0 : ∀ b : Fin 32, bitsL b.val = [] → b.val = 0 := by decide +kernel
  have hb0 := h0 ⟨b, by omega⟩ (by rw [← e]; exact h)
  simp only at hb0
  subst hb0
  unfold anyB at hB
  rw [show 2 ^ l.cs.length - (0 + 1) = 2 ^ l.cs.length - 1 by omega, some_take, List.take_length, withC_self] at hB
  exact anyR_iff.1 hB
theorem first_none_of {l : Led} (hV : Valid l) (h : truthsL l ≠ []) : (firstL l).2 = 7 := by
  by_cases he : (firstL l).2 = 0
  · exfalso
    obtain ⟨k, -, -, -, h11⟩ := first_some hV he
    obtain ⟨c, hc⟩ := List.exists_mem_of_ne_nil _ h
    obtain ⟨h1, h2⟩ := truth_of.1 hc
    have : anyR (someL l (2 ^ (k + 1) - 1)) [] = true := by
      rw [anyR_some]
      refine List.any_eq_true.2 ⟨c, (countsL_mem l c).2 h1, ?_⟩
      exact List.all_eq_true.2 fun x hx => List.all_eq_true.1 h2 x (someC_sub _ _ _ x hx)
    rw [askErr_any (someL_valid hV _), if_pos this] at h11
    cases h11
  · exact (first_none hV he).1
theorem askErr_of {l : Led} (hV : Valid l) (h : truthsL l ≠ []) : askErr l true = 0 := by
  rw [askErr_any hV, if_pos (anyR_iff.2 h)]
theorem askErr_fine {l : Led} {b : Bool} (h : askErr l true = 0) (hb : b = true) : askErr l b = 0 := by rw [hb]; exact h
theorem due_ends {l : Led} (h : askErr l true = 0) (k : Nat) : (∃ c ∈ truthsL l, owed l c k = (dueB l k).1) ∧ (∃ c ∈ truthsL l, owed l c k = (dueB l k).2) ∧ ∀ c ∈ truthsL l, (dueB l k).1 ≤ owed l c k ∧ owed l c k ≤ (dueB l k).2 := by
  obtain ⟨hV, hp, -, hne, hK, -⟩ := truth_facts h
  rw [bounds_ref h]
  obtain ⟨⟨c1, h1, e1⟩, ⟨c2, h2, e2⟩, h3⟩ := refB_ends (q := fun c => owed l c k) hne (fun c hc => by have := owed_bd hV (hK c hc) k; unfold big; omega)
  exact ⟨⟨c1, hp.mem_iff.1 h1, e1⟩, ⟨c2, hp.mem_iff.1 h2, e2⟩, fun c hc => h3 c (hp.mem_iff.2 hc)⟩
theorem rate_ends {l : Led} (h : askErr l true = 0) : (∃ c ∈ truthsL l, c.r = (rateL l).1) ∧ (∃ c ∈ truthsL l, c.r = (rateL l).2) ∧ ∀ c ∈ truthsL l, (rateL l).1 ≤ c.r ∧ c.r ≤ (rateL l).2 := by
  obtain ⟨hV, hp, -, hne, hK, -⟩ := truth_facts h
  rw [rate_ref h]
  obtain ⟨⟨c1, h1, e1⟩, ⟨c2, h2, e2⟩, h3⟩ := refB_ends (q := fun c => c.r) hne (fun c hc => by have := (hK c hc).r0; have := (hK c hc).r1; unfold big; omega)
  exact ⟨⟨c1, hp.mem_iff.1 h1, e1⟩, ⟨c2, hp.mem_iff.1 h2, e2⟩, fun c hc => h3 c (hp.mem_iff.2 hc)⟩
theorem boundL_get {l : Led} (h : askErr l true = 0) {k : Nat} (hk : k < (boundL l).length) : (boundL l)[k] = dueB l k := by
  unfold boundL at hk ⊢
  simp only [if_pos h] at hk ⊢
  simp
theorem boundL_length {l : Led} (h : askErr l true = 0) : (boundL l).length = l.gs.length := by
  unfold boundL
  rw [if_pos h]
  simp
theorem clearL_get {l : Led} (h : askErr l true = 0) {k : Nat} (hk : k < (clearL l).length) : (clearL l)[k] = verdict (dueB l k) := by
  have hk2 : k < (boundL l).length := by simpa [clearL] using hk
  unfold clearL at hk ⊢
  rw [List.getElem_map, boundL_get h hk2]
theorem clearL_length {l : Led} (h : askErr l true = 0) : (clearL l).length = l.gs.length := by
  unfold clearL
  rw [List.length_map, boundL_length h]
theorem verdict_in (r : Int × Int) : 1 ≤ verdict r ∧ verdict r ≤ 3 := by
  unfold verdict
  split
  · omega
  · split <;> omega
theorem verdict_one {r : Int × Int} {n : Int} (h : verdict r = 1) (hn : r.1 ≤ n) : 0 ≤ n := by
  unfold verdict at h
  split at h
  · omega
  · split at h <;> omega
theorem verdict_two {r : Int × Int} {n : Int} (h : verdict r = 2) (hn : n ≤ r.2) : n < 0 := by
  unfold verdict at h
  split at h
  · omega
  · split at h <;> omega
theorem least_length {l : Led} {sum : Int} (h : askErr l (inB sum 0 9999) = 0) : (leastL l sum).length = l.gs.length := least_len h
theorem leastL_get {l : Led} {sum : Int} (h : askErr l true = 0) (h0 : 0 ≤ sum) (h1 : sum ≤ 9999) {k : Nat} (hk : k < l.gs.length) : 0 ≤ (leastL l sum).getD k 0 ∧ (leastL l sum).getD k 0 ≤ 270 ∧ (∀ c ∈ truthsL l, (leastL l sum).getD k 0 ≤ (shareL (dues l c) sum).getD k 0) ∧ ∃ c ∈ truthsL l, (leastL l sum).getD k 0 = (shareL (dues l c) sum).getD k 0 := by
  have hb : inB sum 0 9999 = true := inB_iff.2 ⟨h0, h1⟩
  have e : leastL l sum = leastM l sum (truthsL l) := by unfold leastL; rw [if_pos (askErr_fine h hb)]
  obtain ⟨a, b, c⟩ := least_at h h0 hk
  obtain ⟨hV, hp, -, hne, hK, -⟩ := truth_facts h
  rw [e]
  refine ⟨a, b, fun x hx => c x (hp.mem_iff.2 hx), ?_⟩
  rw [(least_ref h h0 hk).1]
  unfold refLeast
  have hin := minL_inside (xs := (refTruths l).map fun c => (shareL (dues l c) sum).getD k 0) (m := big) (by simpa using hne) (fun x hx => by
    obtain ⟨c, hc, rfl⟩ := List.mem_map.1 hx
    have hk2 : k < (dues l c).length := by rw [dues_len]; exact hk
    have hb := share_bd (ds := dues l c) h0 hk2
    rw [dues_getD hk] at hb
    have ho := (owed_bd hV (hK c hc) k).2
    have := pos_le ho (by omega)
    unfold big
    omega)
  obtain ⟨c, hc, e⟩ := List.mem_map.1 hin
  exact ⟨c, hp.mem_iff.1 hc, e.symm⟩
theorem full_ends {l : Led} (h : askErr l true = 0) : (fullL l = 0 ∨ ∃ c ∈ truthsL l, totalFrom 0 (dues l c) = fullL l) ∧ ∀ c ∈ truthsL l, totalFrom 0 (dues l c) ≤ fullL l := by
  obtain ⟨hV, hp, -, hne, hK, -⟩ := truth_facts h
  obtain ⟨h0, h1, h2⟩ := full_facts h
  refine ⟨?_, fun c hc => h2 c (hp.mem_iff.2 hc)⟩
  have hm := maxL_mem' ((refTruths l).map fun c => totalFrom 0 (dues l c)) 0
  have hf := full_ref h
  unfold refWhole at hf
  rw [← hf] at hm
  rcases hm with e | e
  · exact .inl e
  · obtain ⟨c, hc, e2⟩ := List.mem_map.1 e
    exact .inr ⟨c, hp.mem_iff.1 hc, e2⟩

-- a known number of bundles
theorem flatMap_one {β : Type} (X : Nat → List β) (j : Nat) : ∀ s : Nat, (List.range s).flatMap (fun n => if n = j then X n else []) = if j < s then X j else []
  | 0 => by simp
  | s + 1 => by
    rw [List.range_succ, List.flatMap_append, flatMap_one X j s]
    by_cases h : j < s
    · rw [if_pos h, if_pos (by omega)]
      have : ¬ s = j := by omega
      simp [this]
    · rw [if_neg h]
      by_cases h2 : s = j
      · subst h2
        simp
      · rw [if_neg (by omega)]
        simp [h2]
theorem choices_set : ∀ (gs : List T3) (g : Nat) (k a : Int) (hg : g < gs.length), gs[g].lo ≤ k → k ≤ gs[g].hi → choices (gs.set g ⟨a, k, k⟩) = (choices gs).filter fun t => t.getD g 0 == k
  | y :: gs, 0, k, a, _, h1, h2 => by
    simp only [List.getElem_cons_zero] at h1 h2
    rw [List.set_cons_zero, choices, choices, List.filter_flatMap]
    have hs : steps ⟨a, k, k⟩ = 1 := by unfold steps sz; simp only []; omega
    rw [hs]
    have hX : (fun n : Nat => List.filter (fun t => t.getD 0 0 == k) ((choices gs).map fun t => (y.lo + (n : Int)) :: t)) = fun n : Nat => if n = (k - y.lo).toNat then (choices gs).map fun t => (y.lo + (n : Int)) :: t else [] := by
      funext n
      by_cases hn : n = (k - y.lo).toNat
      · rw [if_pos hn]
        refine List.filter_eq_self.2 fun t ht => ?_
        obtain ⟨u, -, rfl⟩ := List.mem_map.1 ht
        simp
        omega
      · rw [if_neg hn]
        refine List.filter_eq_nil_iff.2 fun t ht => ?_
        obtain ⟨u, -, rfl⟩ := List.mem_map.1 ht
        simp
        omega
    rw [hX, flatMap_one, if_pos (by unfold steps sz; omega)]
    simp only [List.range_one, List.flatMap_cons, List.flatMap_nil, List.append_nil]
    refine List.map_congr_left fun t _ => ?_
    simp
    omega
  | y :: gs, g + 1, k, a, hg, h1, h2 => by
    rw [List.set_cons_succ, choices, choices, List.filter_flatMap, choices_set gs g k a (by simpa using hg) (by simpa using h1) (by simpa using h2)]
    congr 1
    funext n
    rw [List.filter_map]
    rfl
def setG (l : Led) (g : Nat) (k : Int) : Led := { l with gs := l.gs.set g ⟨l.adv g, k, k⟩ }
theorem setG_adv (l : Led) (g : Nat) (k : Int) (i : Nat) : (setG l g k).adv i = l.adv i := by
  unfold setG Led.adv
  simp only [List.getD_eq_getElem?_getD]
  rw [List.getElem?_set]
  by_cases h : g = i
  · subst h
    by_cases h2 : g < l.gs.length
    · simp [h2]
    · simp [h2]
  · simp [h]
theorem setG_owed (l : Led) (g : Nat) (k : Int) (c : Cn) (i : Nat) : owed (setG l g k) c i = owed l c i := by
  unfold owed
  rw [setG_adv]
theorem setG_right (l : Led) (g : Nat) (k : Int) (c : Cn) (x : T3) : rightC (setG l g k) c x = rightC l c x := by
  unfold rightC
  rw [setG_owed]
theorem setG_ok (l : Led) (g : Nat) (k : Int) (c : Cn) : okL (setG l g k) c = okL l c := by
  unfold okL
  rw [rightBut_nil, rightBut_nil]
  show l.cs.all (rightC (setG l g k) c) = _
  congr 1
  funext x
  exact setG_right l g k c x
theorem many_mono : ∀ (gs : List T3) (a b : Int), (∀ y ∈ gs, 1 ≤ sz y) → 0 ≤ a → a ≤ b → many 3000 a gs ≤ many 3000 b gs
  | [], a, b, _, _, h => by simpa [many] using h
  | y :: gs, a, b, hs, h0, hab => by
    have hy := hs y (by simp)
    have h3 := Int.mul_le_mul_of_nonneg_right hab (show 0 ≤ sz y by omega)
    have h4 := Int.mul_nonneg h0 (show 0 ≤ sz y by omega)
    simp only [many]
    exact many_mono gs _ _ (fun z hz => hs z (by simp [hz])) (by omega) (by omega)
theorem many_set : ∀ (gs : List T3) (g : Nat) (hg : g < gs.length) (v : T3) (a b : Int), (∀ y ∈ gs, 1 ≤ sz y) → 1 ≤ sz v → sz v ≤ sz gs[g] → 0 ≤ a → a ≤ b → many 3000 a (gs.set g v) ≤ many 3000 b gs
  | y :: gs, 0, _, v, a, b, hs, h1, h2, h0, hab => by
    simp only [List.getElem_cons_zero] at h2
    rw [List.set_cons_zero]
    simp only [many]
    have h3 := Int.mul_le_mul hab h2 (by omega) (by omega)
    have h4 := Int.mul_nonneg h0 (show 0 ≤ sz v by omega)
    exact many_mono gs _ _ (fun z hz => hs z (by simp [hz])) (by omega) (by omega)
  | y :: gs, g + 1, hg, v, a, b, hs, h1, h2, h0, hab => by
    have hy := hs y (by simp)
    have h3 := Int.mul_le_mul_of_nonneg_right hab (show 0 ≤ sz y by omega)
    have h4 := Int.mul_nonneg h0 (show 0 ≤ sz y by omega)
    rw [List.set_cons_succ]
    simp only [many]
    exact many_set gs g (by simpa using hg) v _ _ (fun z hz => hs z (by simp [hz])) h1 (by simpa using h2) (by omega) (by omega)
theorem setG_valid {l : Led} (hV : Valid l) {g : Nat} (hg : g < l.gs.length) {k : Int} (h1 : l.gs[g].lo ≤ k) (h2 : k ≤ l.gs[g].hi) : Valid (setG l g k) := by
  have hgg := hV.g l.gs[g] (List.getElem_mem hg)
  have ha := hV.at g
  refine ⟨by simpa [setG] using hV.ng, hV.nc, hV.r0, hV.r1, hV.r2, fun y hy => ?_, fun c hc => ?_, ?_⟩
  · rcases List.mem_or_eq_of_mem_set hy with h | h
    · exact hV.g y h
    · subst h
      simp only []
      omega
  · have := hV.c c hc
    simpa [setG] using this
  · have hr := hV.r1
    have hm := many_set l.gs g hg ⟨l.adv g, k, k⟩ (l.hi - l.lo + 1) (l.hi - l.lo + 1) (sz_pos hV) (by unfold sz; simp only []; omega) (by unfold sz; simp only []; omega) (by omega) (Int.le_refl _)
    have := hV.m
    show many 3000 (l.hi - l.lo + 1) (l.gs.set g ⟨l.adv g, k, k⟩) ≤ 2000
    omega
theorem setG_counts {l : Led} {g : Nat} (hg : g < l.gs.length) {k : Int} (h1 : l.gs[g].lo ≤ k) (h2 : k ≤ l.gs[g].hi) : countsL (setG l g k) = (countsL l).filter fun c => c.b g == k := by
  unfold countsL countsAt
  show (rates l).flatMap (fun r => (choices (l.gs.set g ⟨l.adv g, k, k⟩)).map fun bs => (⟨r, bs⟩ : Cn)) = _
  rw [List.filter_flatMap, choices_set l.gs g k (l.adv g) hg h1 h2]
  congr 1
  funext r
  rw [List.filter_map]
  rfl
theorem setG_truths {l : Led} {g : Nat} (hg : g < l.gs.length) {k : Int} (h1 : l.gs[g].lo ≤ k) (h2 : k ≤ l.gs[g].hi) : truthsL (setG l g k) = (truthsL l).filter fun c => c.b g == k := by
  unfold truthsL
  rw [setG_counts hg h1 h2, List.filter_filter, List.filter_filter]
  congr 1
  funext c
  rw [setG_ok, Bool.and_comm]
theorem setG_many {l : Led} (hV : Valid l) {g : Nat} (hg : g < l.gs.length) {k : Nat} (h1 : l.gs[g].lo ≤ k) (h2 : k ≤ l.gs[g].hi) : (refTruths (setG l g k)).length = cntB (refTruths l) g k := by
  rw [(refTruths_perm (setG_valid hV hg h1 h2)).length_eq, setG_truths hg h1 h2]
  unfold cntB cntC
  rw [(refTruths_perm hV).countP_eq, List.countP_eq_length_filter]
  congr 1
theorem cntB_out {l : Led} (hV : Valid l) {g : Nat} (hg : g < l.gs.length) {k : Nat} (h : (k : Int) < l.gs[g].lo ∨ l.gs[g].hi < k) : cntB (refTruths l) g k = 0 := by
  unfold cntB cntC
  refine List.countP_eq_zero.2 fun c hc => ?_
  have hc2 := (truth_of.1 ((refTruths_perm hV).mem_iff.1 hc)).1
  simp only [isCnt, Bool.and_eq_true, decide_eq_true_eq] at hc2
  obtain ⟨-, hl, hok⟩ := hc2
  have h3 := inB_iff.1 (okBs_at c.bs l.gs g (by omega) hg hok)
  have h4 : c.b g = c.bs[g]'(by omega) := by rw [Cn.b, getD_of (by omega)]
  rw [h4]
  simp only [decide_eq_true_eq]
  omega
theorem leavesTo_lo {l : Led} (hV : Valid l) {g : Nat} (hg : g < l.gs.length) : ∀ n : Nat, (n : Int) ≤ l.gs[g].lo → refLeavesTo (refTruths l) g n = 0
  | 0, _ => rfl
  | n + 1, h => by
    rw [refLeavesTo, leavesTo_lo hV hg n (by omega), cntB_out hV hg (.inl (by omega))]
    rfl
theorem leavesTo_hi {l : Led} (hV : Valid l) {g : Nat} (hg : g < l.gs.length) {m : Nat} (hm : l.gs[g].hi < m) : ∀ d : Nat, refLeavesTo (refTruths l) g (m + d) = refLeavesTo (refTruths l) g m
  | 0 => rfl
  | d + 1 => by
    rw [show m + (d + 1) = (m + d) + 1 by omega, refLeavesTo, leavesTo_hi hV hg hm d, cntB_out hV hg (.inr (by omega))]
    omega
theorem leaves_all {l : Led} (hV : Valid l) {g : Nat} (hg : g < l.gs.length) : refLeavesTo (refTruths l) g (l.gs[g].hi.toNat + 1) = refLeaves (refTruths l) g := by
  have h := hV.g l.gs[g] (List.getElem_mem hg)
  have h1 := leavesTo_hi hV hg (m := l.gs[g].hi.toNat + 1) (by omega) (9 - l.gs[g].hi.toNat)
  rw [show l.gs[g].hi.toNat + 1 + (9 - l.gs[g].hi.toNat) = 10 by omega] at h1
  exact h1.symm
theorem ask_facts {l : Led} (h : askErr l true = 0) (hn : 0 < l.gs.length) : ∃ g : Nat, (askL l).1 = g ∧ g < l.gs.length ∧ (askL l).2.1 = (refLeaves (refTruths l) g : Int) ∧ (askL l).2.2 = 0 ∧ ∀ j, j < l.gs.length → refLeaves (refTruths l) g ≤ refLeaves (refTruths l) j := by
  obtain ⟨h1, h2, h3, -⟩ := ask_spec (refTruths l) (l.gs.length - 1)
  rw [ask_ref h hn]
  refine ⟨_, rfl, by omega, by simp only []; rw [h2], rfl, fun j hj => ?_⟩
  rw [← h2]
  exact h3 j (by omega)
end Go.Proofs.Ytogdhkecpjndlaa.C
