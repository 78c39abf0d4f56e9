/- Plain laws: the full sum and the sure shares; the ends of bounds. -/
import Derived.Test.YtogdhkecpjndlaaGT
import Derived.Test.YtogdhkecpjndlaaQ3
set_option linter.unusedSimpArgs false
set_option linter.unusedVariables false
namespace Go.Proofs.Ytogdhkecpjndlaa.C

theorem pos_le {n m : Int} (h : n ≤ m) (h0 : 0 ≤ m) : pos n ≤ m := by unfold pos; split <;> omega
theorem due_le {l : Led} {c : Cn} (hV : Valid l) (hK : CntOk l c) : totalFrom 0 (dues l c) ≤ 1080 := by
  rw [totalFrom_eq]
  have h : ∀ ds : List Int, (∀ d ∈ ds, d ≤ 270) → (ds.map pos).sum ≤ 270 * ds.length := by
    intro ds
    induction ds with
    | nil => simp
    | cons d ds ih =>
      intro h
      have h1 := h d (by simp)
      have h2 := ih (fun x hx => h x (by simp [hx]))
      have h3 : pos d ≤ 270 := pos_le h1 (by omega)
      simp only [List.map_cons, List.sum_cons, List.length_cons]
      omega
  have h2 := h (dues l c) (fun d hd => by
    unfold dues at hd
    obtain ⟨i, -, rfl⟩ := List.mem_map.1 hd
    exact (owed_bd hV hK i).2)
  rw [dues_len] at h2
  have := hV.ng
  omega
theorem full_facts {l : Led} (h : askErr l true = 0) : 0 ≤ fullL l ∧ fullL l ≤ 1080 ∧ ∀ c ∈ refTruths l, totalFrom 0 (dues l c) ≤ fullL l := by
  obtain ⟨hV, -, -, -, hK, -⟩ := truth_facts h
  rw [full_ref h]
  unfold refWhole
  have h1 := maxL_ge' ((refTruths l).map fun c => totalFrom 0 (dues l c)) 0
  refine ⟨h1.1, ?_, fun c hc => h1.2 _ (List.mem_map.2 ⟨c, hc, rfl⟩)⟩
  rcases maxL_mem' ((refTruths l).map fun c => totalFrom 0 (dues l c)) 0 with e | e
  · rw [e]; omega
  · obtain ⟨c, hc, e2⟩ := List.mem_map.1 e
    rw [← e2]
    exact due_le hV (hK c hc)
theorem dues_getD {l : Led} {c : Cn} {k : Nat} (hk : k < l.gs.length) : (dues l c).getD k 0 = owed l c k := by
  unfold dues
  simp [List.getD, hk]
def fullLess (n : Int) : Int := if 0 < n - 1 then n - 1 else 0
def lessAt (l : Led) (n : Int) (c : Cn) (k : Nat) : Bool := decide ((shareL (dues l c) (fullLess n)).getD k 0 < pos (owed l c k))
def lessIn (l : Led) (n : Int) (c : Cn) : Bool := (List.range l.gs.length).any (lessAt l n c)
theorem full_less {l : Led} (h : askErr l true = 0) : (decide (fullL l = 0) || (refTruths l).any (lessIn l (fullL l))) = true := by
  by_cases hn : fullL l = 0
  · simp [hn]
  · simp only [hn, decide_false, Bool.false_or]
    obtain ⟨h0, h1, -⟩ := full_facts h
    have hm := maxL_mem' ((refTruths l).map fun c => totalFrom 0 (dues l c)) 0
    have hf := full_ref h
    unfold refWhole at hf
    rw [← hf] at hm
    rcases hm with e | e
    · exact absurd e hn
    · obtain ⟨c, hc, e2⟩ := List.mem_map.1 e
      have e2 : totalFrom 0 (dues l c) = fullL l := e2
      refine List.any_eq_true.2 ⟨c, hc, Classical.byContradiction fun hno => ?_⟩
      have hfl : fullLess (fullL l) = fullL l - 1 := by unfold fullLess; split <;> omega
      have hall : ∀ k, k < l.gs.length → pos (owed l c k) ≤ (shareL (dues l c) (fullL l - 1)).getD k 0 := fun k hk => by
        refine Classical.byContradiction fun hh => hno ?_
        unfold lessIn
        refine List.any_eq_true.2 ⟨k, List.mem_range.2 hk, ?_⟩
        unfold lessAt
        rw [hfl]
        exact decide_eq_true (by omega)
      have hs := share_sum (ds := dues l c) (sum := fullL l - 1) (by omega)
      rw [if_neg (by omega)] at hs
      have heq : shareL (dues l c) (fullL l - 1) = (dues l c).map pos := by
        apply List.ext_getElem
        · rw [shareL_len, List.length_map]
        · intro k h2 h3
          have hk : k < (dues l c).length := by simpa using h3
          have hk2 : k < l.gs.length := by rwa [dues_len] at hk
          have hb := share_bd (ds := dues l c) (sum := fullL l - 1) (by omega) hk
          have ha := hall k hk2
          rw [dues_getD hk2] at hb
          have hg := dues_getD (l := l) (c := c) hk2
          rw [List.getElem_map, ← getD_of h2, ← getD_of hk, hg]
          omega
      rw [heq] at hs
      have ht := totalFrom_eq (dues l c) 0
      omega
theorem least_at {l : Led} {sum : Int} (h : askErr l true = 0) (h0 : 0 ≤ sum) {k : Nat} (hk : k < l.gs.length) : 0 ≤ (leastM l sum (truthsL l)).getD k 0 ∧ (leastM l sum (truthsL l)).getD k 0 ≤ 270 ∧ ∀ c ∈ refTruths l, (leastM l sum (truthsL l)).getD k 0 ≤ (shareL (dues l c) sum).getD k 0 := by
  obtain ⟨hV, -, -, hne, hK, -⟩ := truth_facts h
  rw [(least_ref h h0 hk).1]
  unfold refLeast
  have hbd : ∀ c ∈ refTruths l, 0 ≤ (shareL (dues l c) sum).getD k 0 ∧ (shareL (dues l c) sum).getD k 0 ≤ 270 := fun c hc => by
    have hk2 : k < (dues l c).length := by rw [dues_len]; exact hk
    have hb := share_bd (ds := dues l c) h0 hk2
    rw [dues_getD hk] at hb
    have ho := (owed_bd hV (hK c hc) k).2
    have := pos_le ho (by omega)
    omega
  have hin := minL_inside (xs := (refTruths l).map fun c => (shareL (dues l c) sum).getD k 0) (m := big) (by simpa using hne) (fun x hx => by
    obtain ⟨c, hc, rfl⟩ := List.mem_map.1 hx
    have := (hbd c hc).2
    unfold big
    omega)
  obtain ⟨c, hc, e⟩ := List.mem_map.1 hin
  refine ⟨by rw [← e]; exact (hbd c hc).1, by rw [← e]; exact (hbd c hc).2, fun c hc => (minL_le' _ big).2 _ (List.mem_map.2 ⟨c, hc, rfl⟩)⟩
theorem sum_le : ∀ {xs ys : List Int}, xs.length = ys.length → (∀ k, k < xs.length → xs.getD k 0 ≤ ys.getD k 0) → xs.sum ≤ ys.sum
  | [], [], _, _ => by simp
  | x :: xs, y :: ys, hl, h => by
    have h1 := h 0 (by simp)
    have h2 := sum_le (xs := xs) (ys := ys) (by simpa using hl) (fun k hk => by simpa using h (k + 1) (by simpa using hk))
    simp only [List.getD_cons_zero] at h1
    simp only [List.sum_cons]
    omega
theorem least_sum {l : Led} {sum : Int} (h : askErr l true = 0) (h0 : 0 ≤ sum) : (leastM l sum (truthsL l)).sum ≤ sum := by
  obtain ⟨hV, -, -, hne, hK, -⟩ := truth_facts h
  obtain ⟨c, hc⟩ := List.exists_mem_of_ne_nil _ hne
  have hlen : (leastM l sum (truthsL l)).length = l.gs.length := by
    by_cases hn : 0 < l.gs.length
    · exact (least_ref h h0 hn).2
    · have hz : l.gs.length = 0 := by omega
      cases ht : truthsL l with
      | nil => rw [leastM, hz]; rfl
      | cons t ts =>
        rw [leastM]
        have hg : ∀ (cs : List Cn) (out : List Int), (leastG l sum out cs).length = out.length := by
          intro cs
          induction cs with
          | nil => intro out; rfl
          | cons c cs ih => intro out; show (leastG l sum (zipMin out (shareL (dues l c) sum)) cs).length = _; rw [ih, zipMin_len]
        rw [hg, shareL_len, dues_len]
  have hle := sum_le (xs := leastM l sum (truthsL l)) (ys := shareL (dues l c) sum) (by rw [hlen, shareL_len, dues_len]) (fun k hk => (least_at h h0 (by omega)).2.2 c hc)
  have hs := share_sum (ds := dues l c) h0
  split at hs <;> omega
theorem take_sum {xs : List Int} {k : Nat} (h : k < xs.length) : (xs.take (k + 1)).sum = (xs.take k).sum + xs[k] := by
  rw [List.take_succ_eq_append_getElem h, List.sum_append]
  simp
theorem take_sum_bd {xs : List Int} {B : Int} (h : ∀ k, k < xs.length → 0 ≤ xs.getD k 0 ∧ xs.getD k 0 ≤ B) : ∀ k : Nat, k ≤ xs.length → 0 ≤ (xs.take k).sum ∧ (xs.take k).sum ≤ B * k
  | 0, _ => by simp
  | k + 1, hk => by
    have h1 := take_sum_bd h k (by omega)
    have h2 := h k (by omega)
    rw [take_sum (by omega)]
    rw [getD_of (by omega)] at h2
    have h3 : B * ((k + 1 : Nat) : Int) = B * k + B := by rw [Int.natCast_add, Int.mul_add]; simp
    omega

-- the ends
theorem refB_ends {q : Cn → Int} {ts : List Cn} (hne : ts ≠ []) (hb : ∀ c ∈ ts, -big ≤ q c ∧ q c ≤ big) : (∃ c ∈ ts, q c = (refB q ts).1) ∧ (∃ c ∈ ts, q c = (refB q ts).2) ∧ ∀ c ∈ ts, (refB q ts).1 ≤ q c ∧ q c ≤ (refB q ts).2 := by
  have e : refB q ts = (minL big (ts.map q), maxL (-big) (ts.map q)) := boundsF_eq q ts big (-big)
  rw [e]
  have hb2 : ∀ x ∈ ts.map q, -big ≤ x ∧ x ≤ big := fun x hx => by
    obtain ⟨c, hc, rfl⟩ := List.mem_map.1 hx
    exact hb c hc
  have h1 := minL_inside (xs := ts.map q) (m := big) (by simpa using hne) (fun x hx => (hb2 x hx).2)
  have h2 := maxL_inside (xs := ts.map q) (m := -big) (by simpa using hne) (fun x hx => (hb2 x hx).1)
  obtain ⟨c1, hc1, e1⟩ := List.mem_map.1 h1
  obtain ⟨c2, hc2, e2⟩ := List.mem_map.1 h2
  exact ⟨⟨c1, hc1, e1⟩, ⟨c2, hc2, e2⟩, fun c hc => ⟨(minL_le' _ big).2 _ (List.mem_map.2 ⟨c, hc, rfl⟩), (maxL_ge' _ (-big)).2 _ (List.mem_map.2 ⟨c, hc, rfl⟩)⟩⟩
def enc4 (a b c d : Bool) : Nat := (if a then 1 else 0) + (if b then 2 else 0) + (if c then 4 else 0) + if d then 8 else 0
theorem enc_or (a b c d : Bool) : bits BinOp.or IntKind.i64 (enc4 a b c d : Int) 1 = (enc4 true b c d : Int) ∧ bits BinOp.or IntKind.i64 (enc4 a b c d : Int) 2 = (enc4 a true c d : Int) ∧ bits BinOp.or IntKind.i64 (enc4 a b c d : Int) 4 = (enc4 a b true d : Int) ∧ bits BinOp.or IntKind.i64 (enc4 a b c d : Int) 8 = (enc4 a b c true : Int) := by
  cases a <;> cases b <;> cases c <;> cases d <;> decide +kernel
def endsN (q : Cn → Int) (a b : Int × Int) (ts : List Cn) : Nat := enc4 (ts.any fun c => q c == a.1) (ts.any fun c => q c == a.2) (ts.any fun c => c.r == b.1) (ts.any fun c => c.r == b.2)
theorem anyC_take {ts : List Cn} {p : Cn → Bool} {k : Nat} (h : k < ts.length) : (ts.take (k + 1)).any p = ((ts.take k).any p || p ts[k]) := by
  rw [List.take_succ_eq_append_getElem h, List.any_append]
  simp
theorem ends_all {l : Led} (h : askErr l true = 0) (g : Nat) : endsN (fun c => owed l c g) (dueB l g) (rateL l) (refTruths l) = 15 := by
  obtain ⟨hV, -, -, hne, hK, -⟩ := truth_facts h
  rw [bounds_ref h, rate_ref h]
  obtain ⟨⟨c1, h1, e1⟩, ⟨c2, h2, e2⟩, -⟩ := refB_ends (q := fun c => owed l c g) hne (fun c hc => by have := owed_bd hV (hK c hc) g; unfold big; omega)
  obtain ⟨⟨c3, h3, e3⟩, ⟨c4, h4, e4⟩, -⟩ := refB_ends (q := fun c => c.r) hne (fun c hc => by have := (hK c hc).r0; have := (hK c hc).r1; unfold big; omega)
  unfold endsN
  rw [show (refTruths l).any (fun c => owed l c g == (refB (fun c => owed l c g) (refTruths l)).1) = true from List.any_eq_true.2 ⟨c1, h1, beq_iff_eq.2 e1⟩,
    show (refTruths l).any (fun c => owed l c g == (refB (fun c => owed l c g) (refTruths l)).2) = true from List.any_eq_true.2 ⟨c2, h2, beq_iff_eq.2 e2⟩,
    show (refTruths l).any (fun c => c.r == (refB (fun c => c.r) (refTruths l)).1) = true from List.any_eq_true.2 ⟨c3, h3, beq_iff_eq.2 e3⟩,
    show (refTruths l).any (fun c => c.r == (refB (fun c => c.r) (refTruths l)).2) = true from List.any_eq_true.2 ⟨c4, h4, beq_iff_eq.2 e4⟩]
  rfl
end Go.Proofs.Ytogdhkecpjndlaa.C
