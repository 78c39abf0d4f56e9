/- Texts joined: C25 C26 C27 F2 Q1 Q2 L1 L2 L3. -/
import Derived.Test.YtogdhkecpjndlaaGE
import Derived.Test.YtogdhkecpjndlaaGC
import Derived.Test.YtogdhkecpjndlaaGB
set_option linter.unusedSimpArgs false
set_option linter.unusedVariables false
/- The reference: what a grower is owed. -/
namespace Go.Proofs.Ytogdhkecpjndlaa.C
open Go.RowKit
set_option maxRecDepth 100000

abbrev cnV (c : Cn) (B : Option Addr) (cB : Nat) : Value := .agg #[.int .i64 c.r, .slice B c.bs.length cB]
set_option maxHeartbeats 2000000 in
theorem Owed_c {l : Led} {A C B : Option Addr} {cA cC cB : Nat} {c : Cn} {g : Nat} {w : World} (hV : Valid l) (hK : CntOk l c) (hG : Row3 w A l.gs) (hB : RowI w B c.bs) (hg : g < l.gs.length) :
    Calls Try.prog 52 #[ledV l A C cA cC, cnV c B cB, .int .i64 g] w fun e w' => e = .returned (.int .i64 (owed l c g)) ∧ G w w' := by
  obtain ⟨b, off, rfl, d0, -, -⟩ := hG.at hg
  have hgb : g < c.bs.length := by rw [hK.len]; exact hg
  obtain ⟨b2, off2, rfl, d1⟩ := hB.at hgb
  have h0 : (0 : Int) ≤ g := by omega
  have h1 : (g : Int) < l.gs.length := by omega
  have h2 : (g : Int) < c.bs.length := by omega
  have ha := hV.at g
  have hbb := hK.at g
  rw [Led.adv_eq hg] at ha
  have e1 : c.b g = c.bs[g] := by simp [Cn.b, List.getD, hgb]
  rw [e1] at hbb
  have hm := mul_bd hK.r0 hK.r1 hbb.1 hbb.2
  have HO := Lib.hid (show owed l c g = c.r * c.bs[g] - l.gs[g].a by unfold owed; rw [Led.adv_eq hg, e1])
  clear e1
  go_enter Try.func52, Try.ntmps52
  go_wp2_with fail
  generalize hW : (w.alloc _).alloc _ = W
  obtain ⟨hB, k1, k2⟩ := boxes2 hW
  have f0 := k1 2 _ rfl
  have f1 := k2 0 _ rfl
  have f2 := k2 1 _ rfl
  have f3 := hB.cell d0
  have f4 := hB.cell d1
  clear hW d0 d1 k1 k2
  go_quiet (fail)
  go_wp2_with fail
  go_ret
  exact ⟨ret_i HO.out.symm, hB.drewN _⟩
end Go.Proofs.Ytogdhkecpjndlaa.C

/- The reference: the total of what those are owed who are paid. -/
namespace Go.Proofs.Ytogdhkecpjndlaa.C
open Go.RowKit
set_option maxRecDepth 100000

set_option maxHeartbeats 2000000 in
theorem Total_c {l : Led} {A C B : Option Addr} {cA cC cB : Nat} {c : Cn} {w : World} (hV : Valid l) (hK : CntOk l c) (hG : Row3 w A l.gs) (hB : RowI w B c.bs) :
    Calls Try.prog 83 #[ledV l A C cA cC, cnV c B cB] w fun e w' => e = .returned (.int .i64 (totalFrom 0 (dues l c))) ∧ G w w' := by
  have HO := Lib.hid (fun (g : Nat) (hg : g < l.gs.length) (w1 : World) (h : G w w1) => Owed_c (C := C) (cA := cA) (cC := cC) (cB := cB) hV hK (hG.grow h) (hB.grow h) hg)
  have hng := hV.ng
  have HBD := Lib.hid (fun g => owed_bd hV hK g)
  go_enter Try.func83, Try.ntmps83
  go_wp2_with fail
  generalize hW : (w.alloc _).alloc _ = W
  obtain ⟨hB1, k1, k2⟩ := boxes2 hW
  have HL0 := Lib.hid k1
  have HL1 := Lib.hid k2
  clear hW k1 k2
  go_loopw [5, 6] (fun v5 v6 wr => ∃ (k : Nat) (acc : Int), k ≤ l.gs.length ∧ v6 = .int .i64 k ∧ v5 = .int .i64 acc ∧ 0 ≤ acc ∧ acc ≤ 1000 * k ∧ Hid (totalFrom acc ((dues l c).drop k) = totalFrom 0 (dues l c)) ∧ G W wr) (fun _ v6 _ => l.gs.length - (intOf v6).toNat)
  case atStart => exact ⟨0, 0, by omega, rfl, rfl, by omega, by omega, rfl, G.refl _⟩
  case round =>
    obtain ⟨k, acc, hk, rfl, rfl, ha0, ha1, HT, hbr⟩ := hrel
    have f0 := hbr.cell (HL0.out 0 (.int .i64 l.lo) rfl)
    have f1 := hbr.cell (HL0.out 1 (.int .i64 l.hi) rfl)
    have f2 := hbr.cell (HL0.out 2 (.slice A l.gs.length cA) rfl)
    have f3 := hbr.cell (HL0.out 3 (.slice C l.cs.length cC) rfl)
    have f4 := hbr.cell (HL1.out 0 (.int .i64 c.r) rfl)
    have f5 := hbr.cell (HL1.out 1 (.slice B c.bs.length cB) rfl)
    by_cases hlt : k < l.gs.length
    · have hkd : k < (dues l c).length := by simpa [dues] using hlt
      have HD : Hid ((dues l c).drop k = owed l c k :: (dues l c).drop (k + 1)) := by
        unfold Hid
        rw [List.drop_eq_getElem_cons hkd]
        simp [dues]
      have hbd := HBD.out k
      have hcall := HO.out k hlt wr (hB1.trans hbr)
      generalize owed l c k = d at *
      by_cases hd : 0 < d
      all_goals
        go_wp2_with fail
        refine hcall.mono ?_
        rintro e w2 ⟨rfl, hb2⟩
        go_wp2_with fail
        go_roundw
        case rel => exact ⟨k + 1, _, by omega, by go_num, rfl, by omega, by omega, by have h := HT.out; rw [HD.out, totalFrom] at h; rw [Hid, ← h]; congr 1; unfold pos; split <;> omega, hbr.trans hb2⟩
        case measure => simp [intOf]; omega
    · go_wp2_with fail
      go_ret
      have h := HT.out
      rw [List.drop_eq_nil_of_le (by simp [dues]; omega)] at h
      exact ⟨ret_i h, hB1.trans hbr⟩
end Go.Proofs.Ytogdhkecpjndlaa.C

/- The reference: all claims, by bits. -/
namespace Go.Proofs.Ytogdhkecpjndlaa.C
open Go.RowKit
set_option maxRecDepth 100000

set_option maxHeartbeats 2000000 in
theorem FullN_c (lo hi : Int) (A C : Option Addr) (m n cA cC : Nat) (w : World) (hn : n ≤ 5) :
    Calls Try.prog 55 #[.agg #[.int .i64 lo, .int .i64 hi, .slice A m cA, .slice C n cC]] w fun e w' => e = .returned (.int .i64 ((2 ^ n - 1 : Nat) : Int)) ∧ G w w' := by
  have h : n = 0 ∨ n = 1 ∨ n = 2 ∨ n = 3 ∨ n = 4 ∨ n = 5 := by omega
  rcases h with rfl | rfl | rfl | rfl | rfl | rfl
  all_goals
    go_enter Try.func55, Try.ntmps55
    go_wp2_with fail
    go_ret
    exact ⟨by first | rfl | simp, (G.refl _).alloc _⟩
end Go.Proofs.Ytogdhkecpjndlaa.C

/- Regions that draw their order, walked segment by segment: forced parts in their order; forks in which reads go first while allocations and calls may come up among them. -/
namespace Go.Proofs.Ytogdhkecpjndlaa.C
open Go
variable {P : Program} {md : Region.Mode} {ops : Array Oper} {Q : Exit → Act → World → Prop} {S : World → Prop} {m : Nat}

theorem upon_then2 {o : Oper} {a : Act} {K K' K2 : Act → World → Prop} (hK : ∀ a w, K a w → K' a w)
    (r : Result Next) (h : o.upon P a K (Exit.then K2 Q) r) : o.upon P a K' Q r := by
  cases r with
  | ok x w' =>
    cases x <;> simp only [Oper.upon] at h ⊢ <;>
      first
        | exact hK _ _ h
        | exact Calls.mono h (fun e w'' he => by cases e <;> first | exact hK _ _ he | exact he)
        | exact Rows.mono h (fun _ _ he => hK _ _ he)
  | halt x w' => cases x <;> simp only [Oper.upon] at h ⊢ <;> exact h

def segB (md : Region.Mode) (ops : Array Oper) : Nat → Nat → Array Bool → Bool
  | 0, _, _ => true
  | g + 1, k, listed => decide (Region.ready md ops listed = [k]) && segB md ops g (k + 1) (listed.setIfInBounds k true)
def setN : Nat → Nat → Array Bool → Array Bool
  | 0, _, l => l
  | g + 1, k, l => setN g (k + 1) (l.setIfInBounds k true)

theorem wpAny_seg {f : Nat} : ∀ (l : List Oper) (k : Nat) (listed : Array Bool) (a : Act) (w : World), (∀ j, j < l.length → l[j]? = ops[k + j]?) → segB md ops l.length k listed = true →
    wpList P ops (Exit.then (fun a' w' => wpAny P md ops Q f (setN l.length k listed) a' w') Q) l a w → wpAny P md ops Q (f + l.length) listed a w
  | [], _, _, _, _, _, _, h => h
  | o :: l, k, listed, a, w, hl, hB, h => by
    have h0 : ops[k]? = some o := by simpa using (hl 0 (by simp)).symm
    simp only [List.length_cons, segB, Bool.and_eq_true, decide_eq_true_eq] at hB
    refine ⟨fun h1 => (by rw [hB.1] at h1; cases h1), fun i hi => ?_⟩
    rw [hB.1] at hi
    have hik : i = k := by simpa using hi
    subst hik
    have hrec : ∀ a' w', wpList P ops (Exit.then (fun a' w' => wpAny P md ops Q f (setN (l.length + 1) i listed) a' w') Q) l a' w' → wpAny P md ops Q (f + l.length) (listed.setIfInBounds i true) a' w' :=
      fun a' w' h' => wpAny_seg l (i + 1) _ a' w' (fun j hj => by have := hl (j + 1) (by simpa using hj); simpa [Nat.add_assoc, Nat.add_comm 1 j] using this) hB.2 h'
    unfold wpOp
    simp only [h0]
    unfold wpList at h
    split
    · rename_i hw
      rw [if_pos hw] at h
      rcases h with h | ⟨h1, x, y, h2⟩
      · left
        unfold Oper.wp at *
        exact upon_then2 hrec _ h
      · exact .inr ⟨h1, x, y, h2⟩
    · rename_i hw
      rw [if_neg hw] at h
      exact hrec _ _ h

/-- So many operations from k on, in their order. -/
theorem wpAny_part {l : List Oper} {k n f fuel : Nat} {listed : Array Bool} {a : Act} {w : World} (hf : fuel = f + n) (hn : ((l.drop k).take n).length = n) (hB : segB md l.toArray n k listed = true)
    (h : wpList P l.toArray (Exit.then (fun a' w' => wpAny P md l.toArray Q f (setN n k listed) a' w') Q) ((l.drop k).take n) a w) : wpAny P md l.toArray Q fuel listed a w := by
  subst hf
  have := wpAny_seg (P := P) (Q := Q) (md := md) (ops := l.toArray) (f := f) ((l.drop k).take n) k listed a w (fun j hj => by rw [hn] at hj; simp [List.getElem?_drop, hj])
  rw [hn] at this
  exact this hB h
theorem wpAny_done {listed : Array Bool} {a : Act} {w : World} (hr : Region.ready md ops listed = []) (h : Q .normal a w) : wpAny P md ops Q 0 listed a w := ⟨hr, h⟩

theorem wpAnyU_first {i : Nat} {oi : Oper} {v : Value} (nd : Nat → Bool) (hi : ops[i]? = some oi) (hsel : ∀ (j : Nat) (o : Oper) cs b, ops[j]? = some o → o.op ≠ .select cs b)
    (hN : ∀ j oj, ops[j]? = some oj → nd j = true → j = i ∨ ∃ e ∈ oj.after, Region.binds md e = true ∧ nd e.on = true) (hT : ∀ j oj, ops[j]? = some oj → m ≤ j → nd j = true)
    (hQ : ∀ c a w, Q (.panic c) (a.put oi.dst v) w → Q (.panic c) a w) :
    ∀ (fuel : Nat) (listed : Array Bool) (a : Act) (w : World),
      (∀ j oj, ops[j]? = some oj → j ≠ i → listed.getD j true = false → (∀ e ∈ oj.after, Region.binds md e = true → e.on ≠ i) → oi.apart ops oj = true) →
      (∀ k, nd k = true → listed.getD k false = false) →
      i ∈ Region.ready md ops listed → YieldsIf P ops S oi v a → S w →
      wpAnyT P md ops Q S m fuel (listed.setIfInBounds i true) (a.put oi.dst v) w → wpAnyT P md ops Q S m (fuel + 1) listed a w := by
  intro fuel
  induction fuel with
  | zero =>
    intro listed a w _ _ hr hy hS H
    refine ⟨fun h => (by rw [h] at hr; cases hr), fun j hj => ?_⟩
    by_cases hji : j = i
    · subst hji; exact hy.wpOp hi hS ⟨fun _ => hS, H⟩
    · have := ready_mono hj hji
      rw [H.1] at this
      cases this
  | succ fuel ih =>
    intro listed a w hfree hinv hr hy hS H
    refine ⟨fun h => (by rw [h] at hr; cases hr), fun j hj => ?_⟩
    by_cases hji : j = i
    · subst hji; exact hy.wpOp hi hS ⟨fun _ => hS, H⟩
    · have h1 := H.2 j (ready_mono hj hji)
      obtain ⟨hjun, oj, hoj, hall⟩ := mem_ready.1 hj
      have hnot : ∀ e ∈ oj.after, Region.binds md e = true → e.on ≠ i := fun e he hb heq => by
        have h1 := hall e he hb
        have h0 := (mem_ready.1 hr).1
        rw [heq] at h1
        rcases Nat.lt_or_ge i listed.size with h' | h'
        · simp [h'] at h0 h1; rw [h0] at h1; cases h1
        · simp [Array.getElem?_eq_none h'] at h1
      have hjn : nd j = false := by
        cases hn : nd j with
        | false => rfl
        | true =>
          rcases hN j oj hoj hn with h | ⟨e, he, hb, hne⟩
          · exact absurd h hji
          · have h3 := hall e he hb
            rw [hinv _ hne] at h3
            cases h3
      have hjm : j < m := by
        rcases Nat.lt_or_ge j m with h | h
        · exact h
        · rw [hT j oj hoj h] at hjn
          cases hjn
      have h2 := wpOp_putIf hoj (hfree j oj hoj hji hjun hnot) (fun cs b => hsel i oi cs b hi) (fun cs b => hsel j oj cs b hoj) hQ hy h1
      have hfree' : ∀ k ok, ops[k]? = some ok → k ≠ i → (listed.setIfInBounds j true).getD k true = false →
          (∀ e ∈ ok.after, Region.binds md e = true → e.on ≠ i) → oi.apart ops ok = true := fun k ok hk hki hun hno => by
        refine hfree k ok hk hki ?_ hno
        by_cases hjk : j = k
        · subst hjk; exact hjun
        · rw [getD_set_ne true hjk] at hun; exact hun
      have hinv' : ∀ k, nd k = true → (listed.setIfInBounds j true).getD k false = false := fun k hk => by
        have hjk : j ≠ k := by rintro rfl; rw [hjn] at hk; cases hk
        rw [getD_set_ne false hjk]
        exact hinv k hk
      refine wpOp_mono (fun a' w' h3 => ⟨h3.2.1, ih (listed.setIfInBounds j true) a' w' hfree' hinv' (ready_mono hr (Ne.symm hji)) h3.1 (h3.2.1 hjm) ?_⟩) h2
      rw [Array.setIfInBounds_comm _ _ hji]
      exact h3.2.2

/-- Which operations wait for one, at once or through others. -/
def needsOf (md : Region.Mode) (ops : Array Oper) (i : Nat) : Array Bool :=
  (List.range ops.size).foldl (fun nd j => if j == i || (ops[j]?).any (fun o => o.after.any fun e => Region.binds md e && nd.getD e.on false) then nd.setIfInBounds j true else nd) (Array.replicate ops.size false)
def needB (md : Region.Mode) (ops : Array Oper) (m i : Nat) (listed nd : Array Bool) : Bool :=
  (List.range ops.size).all (fun j => (!nd.getD j false || (j == i || (ops[j]?).any (fun o => o.after.any fun e => Region.binds md e && nd.getD e.on false))) && ((decide (j < m) || nd.getD j false) && (!nd.getD j false || !listed.getD j false))) && decide (nd.size ≤ ops.size)
theorem needB_spec {i : Nat} {listed nd : Array Bool} (h : needB md ops m i listed nd = true) :
    (∀ j oj, ops[j]? = some oj → nd.getD j false = true → j = i ∨ ∃ e ∈ oj.after, Region.binds md e = true ∧ nd.getD e.on false = true) ∧ (∀ j oj, ops[j]? = some oj → m ≤ j → nd.getD j false = true) ∧ ∀ k, nd.getD k false = true → listed.getD k false = false := by
  simp only [needB, Bool.and_eq_true, decide_eq_true_eq] at h
  obtain ⟨h, hz⟩ := h
  refine ⟨fun j oj hj hn => ?_, fun j oj hj hm => ?_, fun k hk => ?_⟩
  · have h1 := List.all_eq_true.1 h j (List.mem_range.2 (Array.getElem?_eq_some_iff.1 hj).1)
    rw [hj] at h1
    simp only [Bool.and_eq_true, Bool.or_eq_true, hn, Bool.not_true, Bool.false_eq_true, false_or, Option.any_some, beq_iff_eq] at h1
    rcases h1.1 with h2 | h2
    · exact .inl h2
    · obtain ⟨e, he, hb⟩ := Array.any_eq_true'.1 h2
      rw [Bool.and_eq_true] at hb
      exact .inr ⟨e, he, hb.1, hb.2⟩
  · have h1 := List.all_eq_true.1 h j (List.mem_range.2 (Array.getElem?_eq_some_iff.1 hj).1)
    simp only [Bool.and_eq_true, Bool.or_eq_true, decide_eq_true_eq] at h1
    rcases h1.2.1 with h2 | h2
    · omega
    · exact h2
  · have hk2 : k < ops.size := by
      rcases Nat.lt_or_ge k nd.size with h' | h'
      · omega
      · rw [Array.getD_eq_getD_getElem?, Array.getElem?_eq_none h'] at hk
        simp at hk
    have h1 := List.all_eq_true.1 h k (List.mem_range.2 hk2)
    simp only [Bool.and_eq_true, Bool.or_eq_true, hk, Bool.not_true, Bool.false_eq_true, false_or] at h1
    simpa using h1.2.2

/-- In a fork: a read goes first. -/
theorem wpAnyU_take {i : Nat} {oi : Oper} {v : Value} {fuel : Nat} {listed : Array Bool} {a : Act} {w : World} (hi : ops[i]? = some oi)
    (hk : (Region.noSelect ops && (needB md ops m i listed (needsOf md ops i) && (Region.free md ops listed i && (Region.ready md ops listed).contains i))) = true)
    (hQ : ∀ c a w, Q (.panic c) (a.put oi.dst v) w → Q (.panic c) a w) (hS : S w) (hy : YieldsIf P ops S oi v a)
    (h : wpAnyT P md ops Q S m fuel (listed.setIfInBounds i true) (a.put oi.dst v) w) : wpAnyT P md ops Q S m (fuel + 1) listed a w := by
  simp only [Bool.and_eq_true] at hk
  obtain ⟨hs, hN, hf, hr⟩ := hk
  obtain ⟨n1, n2, n3⟩ := needB_spec hN
  exact wpAnyU_first (fun k => (needsOf md ops i).getD k false) hi (Region.noSelect_spec hs) n1 n2 hQ fuel listed a w (Region.free_spec hi hf) n3 (by simpa using hr) hy hS h

theorem wpAnyU_takes {i : Nat} {oi : Oper} {fuel : Nat} {listed : Array Bool} {a : Act} {w : World} (hi : ops[i]? = some oi)
    (hk : (Region.noSelect ops && (needB md ops m i listed (needsOf md ops i) && (Region.free md ops listed i && (Region.ready md ops listed).contains i))) = true)
    (hQ : ∀ v c a w, Q (.panic c) (a.put oi.dst v) w → Q (.panic c) a w) (hS : S w)
    (h : ∃ v, YieldsIf P ops S oi v a ∧ wpAnyT P md ops Q S m fuel (listed.setIfInBounds i true) (a.put oi.dst v) w) : wpAnyT P md ops Q S m (fuel + 1) listed a w := by
  obtain ⟨v, hy, h⟩ := h
  exact wpAnyU_take hi hk (hQ v) hS hy h

/-- A fork opens; it is closed when all of it is listed. -/
theorem wpAny_fork (S : World → Prop) (m : Nat) {fuel : Nat} {listed : Array Bool} {a : Act} {w : World} (h : wpAnyT P md ops Q S m fuel listed a w) : wpAny P md ops Q fuel listed a w := wpAny_of_T _ _ _ _ h
theorem wpAnyT_shut : ∀ (fuel : Nat) (listed : Array Bool) (a : Act) (w : World), (∀ k, k < m → listed.getD k true = true) → wpAny P md ops Q fuel listed a w → wpAnyT P md ops Q S m fuel listed a w
  | 0, _, _, _, _, h => h
  | fuel + 1, listed, a, w, hl, h => ⟨h.1, fun i hi => wpOp_mono (fun a' w' h' => by
      have hun := (mem_ready.1 hi).1
      have him : ¬ i < m := fun hlt => by rw [hl i hlt] at hun; cases hun
      refine ⟨fun hlt => absurd hlt him, wpAnyT_shut fuel _ a' w' (fun k hk => ?_) h'⟩
      rw [getD_set_ne true (by omega)]
      exact hl k hk) (h.2 i hi)⟩
theorem wpAnyT_close {fuel : Nat} {listed : Array Bool} {a : Act} {w : World} (hl : (List.range m).all (fun k => listed.getD k true) = true) (h : wpAny P md ops Q fuel listed a w) : wpAnyT P md ops Q S m fuel listed a w :=
  wpAnyT_shut _ _ _ _ (fun k hk => List.all_eq_true.1 hl k (List.mem_range.2 hk)) h

theorem wp_region_A {id : Nat} {l : List Oper} {a : Act} {w : World} (hm : P.follows .mixedOrders = true)
    (h : wpAny P .any l.toArray Q l.length (Array.replicate l.length false) a { w with drawn := w.drawn + 1 }) : (Code.region id l.toArray true).wp P Q a w :=
  wp_region_any hm (by simpa using h)
theorem wpIn_region_A {lr n id : Nat} {l : List Oper} {a : Act} {w : World} (hQ : ¬ LetsOut Q) (hm : P.follows .mixedOrders = true) (hd : noDefer l = true)
    (h : wpAny P .any l.toArray Q l.length (Array.replicate l.length false) a { w with drawn := w.drawn + 1 }) : (Code.region id l.toArray true).wpIn (Fence.wide.inRound lr) n P Q a w :=
  wpIn_region_any hm (any_in hQ (noDefer_spec hd) _ _ _ _ (by simpa using h))

end Go.Proofs.Ytogdhkecpjndlaa.C

/- Plain: the reference's counts, by their numbers, are the program's counts in another order. -/
namespace Go.Proofs.Ytogdhkecpjndlaa.C

def nthBs : Int → List T3 → List Int
  | _, [] => []
  | n, g :: gs => (g.lo + n % sz g) :: nthBs (n / sz g) gs
def nthC (l : Led) (n : Int) : Cn := ⟨l.lo + n % (l.hi - l.lo + 1), nthBs (n / (l.hi - l.lo + 1)) l.gs⟩
def manyL (l : Led) : Int := many 3000 (l.hi - l.lo + 1) l.gs
def refCounts (l : Led) : List Cn := (List.range (manyL l).toNat).map fun (n : Nat) => nthC l (n : Int)

def prodS : List T3 → Nat
  | [] => 1
  | g :: gs => steps g * prodS gs
theorem many_ge : ∀ (gs : List T3) (a : Int), (∀ g ∈ gs, 1 ≤ sz g) → 0 ≤ a → a ≤ 3000 → a ≤ many 3000 a gs
  | [], a, _, _, _ => by simp [many]
  | g :: gs, a, hs, h0, h1 => by
    have hg := hs g (by simp)
    have h3 : a * 1 ≤ a * sz g := Int.mul_le_mul_of_nonneg_left hg h0
    have := many_ge gs (min 3000 (a * sz g)) (fun x hx => hs x (by simp [hx])) (by omega) (by omega)
    rw [many]
    omega
theorem many_eq : ∀ (gs : List T3) (a : Int), (∀ g ∈ gs, 1 ≤ sz g) → 0 ≤ a → many 3000 a gs ≤ 2000 → many 3000 a gs = a * prodS gs
  | [], a, _, _, _ => by simp [many, prodS]
  | g :: gs, a, hs, h0, h1 => by
    have hg := hs g (by simp)
    have h3 : a * 1 ≤ a * sz g := Int.mul_le_mul_of_nonneg_left hg h0
    rw [many] at h1 ⊢
    have h4 := many_ge gs (min 3000 (a * sz g)) (fun x hx => hs x (by simp [hx])) (by omega) (by omega)
    have h5 := many_eq gs (min 3000 (a * sz g)) (fun x hx => hs x (by simp [hx])) (by omega) h1
    rw [h5, show min 3000 (a * sz g) = a * sz g by omega, prodS]
    have : ((steps g : Nat) : Int) = sz g := by unfold steps; omega
    rw [Int.natCast_mul, this, Int.mul_assoc]

theorem range_mul (a : Nat) : ∀ b : Nat, List.range (a * b) = (List.range b).flatMap fun q => (List.range a).map fun r => r + a * q
  | 0 => by simp
  | b + 1 => by
    rw [List.range_succ, List.flatMap_append, ← range_mul a b, Nat.mul_succ, List.range_add]
    simp only [List.flatMap_cons, List.flatMap_nil, List.append_nil]
    congr 1
    apply List.map_congr_left
    intro x _
    omega
theorem flatMap_cons_perm {β γ : Type} (g : β → γ) (h : β → List γ) : ∀ ys : List β, (ys.flatMap fun y => g y :: h y).Perm (ys.map g ++ ys.flatMap h)
  | [] => by simp
  | y :: ys => by
    simp only [List.flatMap_cons, List.map_cons, List.cons_append]
    refine List.Perm.cons _ ?_
    refine (List.Perm.append_left (h y) (flatMap_cons_perm g h ys)).trans ?_
    rw [← List.append_assoc, ← List.append_assoc]
    exact List.Perm.append_right _ List.perm_append_comm
theorem flatMap_swap {α β γ : Type} (f : α → β → γ) (ys : List β) : ∀ xs : List α, (xs.flatMap fun x => ys.map fun y => f x y).Perm (ys.flatMap fun y => xs.map fun x => f x y)
  | [] => by simp
  | x :: xs => by
    simp only [List.flatMap_cons, List.map_cons]
    exact ((List.Perm.append_left _ (flatMap_swap f ys xs))).trans (flatMap_cons_perm (f x) (fun y => xs.map fun x => f x y) ys).symm
theorem flatMap_perm {α β : Type} {f g : α → List β} : ∀ {xs : List α}, (∀ x ∈ xs, (f x).Perm (g x)) → (xs.flatMap f).Perm (xs.flatMap g)
  | [], _ => by simp
  | x :: xs, h => by
    simp only [List.flatMap_cons]
    exact List.Perm.append (h x (by simp)) (flatMap_perm fun y hy => h y (by simp [hy]))

theorem digit (s : Nat) (r q : Nat) (hr : r < s) : ((r + s * q : Nat) : Int) % (s : Int) = r ∧ ((r + s * q : Nat) : Int) / (s : Int) = q := by
  have h1 : (r + s * q) % s = r := by rw [Nat.add_mul_mod_self_left, Nat.mod_eq_of_lt hr]
  have h2 : (r + s * q) / s = q := by rw [Nat.add_mul_div_left _ _ (by omega), Nat.div_eq_of_lt hr]; omega
  constructor
  · rw [← Int.natCast_emod, h1]
  · rw [← Int.natCast_ediv, h2]
theorem nthBs_perm : ∀ gs : List T3, (∀ g ∈ gs, 1 ≤ sz g) → ((List.range (prodS gs)).map fun (n : Nat) => nthBs (n : Int) gs).Perm (choices gs)
  | [], _ => by simp [prodS, choices, nthBs]
  | g :: gs, hs => by
    have hg := hs g (by simp)
    have hz : ((steps g : Nat) : Int) = sz g := by unfold steps; omega
    have ih := nthBs_perm gs (fun x hx => hs x (by simp [hx]))
    rw [prodS, range_mul, List.map_flatMap, choices]
    have h1 : ((List.range (prodS gs)).flatMap fun q => ((List.range (steps g)).map fun r => r + steps g * q).map fun (n : Nat) => nthBs (n : Int) (g :: gs)) =
        (List.range (prodS gs)).flatMap fun (q : Nat) => (List.range (steps g)).map fun (r : Nat) => (g.lo + (r : Int)) :: nthBs (q : Int) gs := by
      congr 1
      funext q
      rw [List.map_map]
      apply List.map_congr_left
      intro r hr
      have hd := digit (steps g) r q (List.mem_range.1 hr)
      simp only [Function.comp, nthBs]
      rw [← hz, hd.1, hd.2]
    rw [h1]
    refine (flatMap_swap (fun (q : Nat) (r : Nat) => (g.lo + (r : Int)) :: nthBs (q : Int) gs) _ _).trans ?_
    refine flatMap_perm fun r _ => ?_
    have := List.Perm.map (fun t => (g.lo + (r : Int)) :: t) ih
    rwa [List.map_map] at this
theorem sz_pos {l : Led} (hV : Valid l) : ∀ g ∈ l.gs, 1 ≤ sz g := fun g hg => by have := hV.g g hg; unfold sz; omega
theorem manyL_eq {l : Led} (hV : Valid l) : (manyL l).toNat = (l.hi - l.lo + 1).toNat * prodS l.gs := by
  have h0 := hV.r0
  have h1 := hV.r1
  have := many_eq l.gs (l.hi - l.lo + 1) (sz_pos hV) (by omega) hV.m
  unfold manyL
  rw [this]
  rw [← Int.toNat_natCast (prodS l.gs), ← Int.toNat_mul (by omega) (by omega)]
  simp
theorem refCounts_perm {l : Led} (hV : Valid l) : (refCounts l).Perm (countsL l) := by
  have h1 := hV.r1
  have hz : (((l.hi - l.lo + 1).toNat : Nat) : Int) = l.hi - l.lo + 1 := by omega
  unfold refCounts countsL rates
  rw [manyL_eq hV, range_mul, List.map_flatMap, List.flatMap_map]
  have h2 : ((List.range (prodS l.gs)).flatMap fun q => ((List.range (l.hi - l.lo + 1).toNat).map fun r => r + (l.hi - l.lo + 1).toNat * q).map fun (n : Nat) => nthC l (n : Int)) =
      (List.range (prodS l.gs)).flatMap fun (q : Nat) => (List.range (l.hi - l.lo + 1).toNat).map fun (r : Nat) => (⟨l.lo + (r : Int), nthBs (q : Int) l.gs⟩ : Cn) := by
    congr 1
    funext q
    rw [List.map_map]
    apply List.map_congr_left
    intro r hr
    have hd := digit (l.hi - l.lo + 1).toNat r q (List.mem_range.1 hr)
    simp only [Function.comp, nthC]
    rw [hz] at hd
    rw [hd.1, hd.2]
  rw [h2]
  refine (flatMap_swap (fun (q : Nat) (r : Nat) => (⟨l.lo + (r : Int), nthBs (q : Int) l.gs⟩ : Cn)) _ _).trans ?_
  refine flatMap_perm fun r _ => ?_
  have := List.Perm.map (fun t => (⟨l.lo + (r : Int), t⟩ : Cn)) (nthBs_perm l.gs (sz_pos hV))
  rw [List.map_map] at this
  exact this
theorem manyL_pos {l : Led} (hV : Valid l) : 1 ≤ manyL l ∧ manyL l ≤ 2000 := by
  have := many_ge l.gs (l.hi - l.lo + 1) (sz_pos hV) (by have := hV.r1; omega) (by have := hV.r0; have := hV.r2; omega)
  have := hV.r1
  exact ⟨by unfold manyL; omega, hV.m⟩
theorem nthC_mem {l : Led} (hV : Valid l) {n : Nat} (h : (n : Int) < manyL l) : isCnt l (nthC l n) = true := by
  rw [← countsL_mem, ← (refCounts_perm hV).mem_iff]
  unfold refCounts
  exact List.mem_map.2 ⟨n, by simp; omega, rfl⟩
theorem refCounts_mem {l : Led} (hV : Valid l) (c : Cn) : c ∈ refCounts l ↔ isCnt l c = true := by
  rw [(refCounts_perm hV).mem_iff, countsL_mem]
end Go.Proofs.Ytogdhkecpjndlaa.C

/- Plain: shares coin by coin are shares by rank. -/
namespace Go.Proofs.Ytogdhkecpjndlaa.C

def aheadB (f : Nat → Int) (i j : Nat) : Bool := decide (f i < f j) || (decide (f j = f i) && decide (j < i))
/-- How many get a coin before one does. -/
def ahead (f : Nat → Int) (n i : Nat) : Nat := (List.range n).countP (aheadB f i)
def refShare (ds : List Int) (sum : Int) : List Int :=
  if totalFrom 0 ds ≤ sum then ds.map pos
  else (List.range ds.length).map fun i => fl ds sum i + if (ahead (rm ds sum) ds.length i : Int) < leftOf ds sum then 1 else 0

theorem countP_or (z : Nat → Bool) (j n : Nat) (hj : z j = false) : (List.range n).countP (fun i => z i || i == j) = (List.range n).countP z + if j < n then 1 else 0 := by
  induction n with
  | zero => simp
  | succ n ih =>
    rw [List.range_succ, List.countP_append, List.countP_append, ih]
    simp only [List.countP_cons, List.countP_nil]
    by_cases h : n = j
    · subst h
      simp [hj]
    · have : (n == j) = false := by simp [h]
      rw [this, Bool.or_false]
      by_cases h2 : j < n
      · rw [if_pos h2, if_pos (show j < n + 1 by omega)]; omega
      · rw [if_neg h2, if_neg (show ¬ j < n + 1 by omega)]; omega
theorem countP_le {p q : Nat → Bool} {n : Nat} (h : ∀ i, i < n → p i = true → q i = true) : (List.range n).countP p ≤ (List.range n).countP q := by
  induction n with
  | zero => simp
  | succ n ih =>
    rw [List.range_succ, List.countP_append, List.countP_append]
    have h1 := ih (fun i hi => h i (by omega))
    have h2 := h n (by omega)
    simp only [List.countP_cons, List.countP_nil]
    cases hp : p n with
    | false => simp; omega
    | true => rw [h2 hp]; simp; omega
theorem sumTo_countP {f : Nat → Int} {t : Int} (h0 : ∀ i, 0 ≤ f i) (h1 : ∀ i, f i ≤ t) : ∀ n, sumTo f n ≤ t * ((List.range n).countP (fun i => decide (0 < f i)) : Nat)
  | 0 => by simp [sumTo]
  | n + 1 => by
    have ih := sumTo_countP h0 h1 n
    have a := h0 n
    have b := h1 n
    rw [sumTo, List.range_succ, List.countP_append]
    simp only [List.countP_cons, List.countP_nil]
    by_cases h : 0 < f n
    · simp only [h, decide_true, if_true]
      rw [Nat.zero_add, Int.natCast_add, Int.mul_add]
      simp
      omega
    · simp only [h, decide_false]
      have : f n = 0 := by omega
      simp
      omega

theorem maxOf_ge {xs : List Int} : ∀ x ∈ xs, x ≤ maxOf xs := by
  intro x hx
  cases xs with
  | nil => simp at hx
  | cons y ys =>
    have := maxL_ge' ys y
    rcases List.mem_cons.1 hx with rfl | h
    · exact this.1
    · exact this.2 x h

/-- What is known after some coins: who has got one, 'z'. -/
structure Coined (f : Nat → Int) (n k : Nat) (z : Nat → Bool) : Prop where
  many : (List.range n).countP z = k
  inside : ∀ i, z i = true → i < n ∧ 0 < f i
  first : ∀ i j, i < n → j < n → z i = true → z j = false → aheadB f j i = true

theorem coins_spec (f g : Nat → Int) (n : Nat) (h0 : ∀ i, 0 ≤ f i) : ∀ (m k : Nat) (z : Nat → Bool), Coined f n k z → k + m ≤ (List.range n).countP (fun i => decide (0 < f i)) →
    ∃ z', Coined f n (k + m) z' ∧ coins m ((List.range n).map fun i => g i + if z i = true then 1 else 0) ((List.range n).map fun i => if z i = true then 0 else f i) = (List.range n).map fun i => g i + if z' i = true then 1 else 0
  | 0, k, z, hz, _ => ⟨z, hz, rfl⟩
  | m + 1, k, z, hz, hk => by
    generalize hrest : ((List.range n).map fun i => if z i = true then 0 else f i) = rest
    have hat : ∀ i, i < n → rest[i]? = some (if z i = true then 0 else f i) := by intro i hi; rw [← hrest]; simp [hi]
    have hlen : rest.length = n := by rw [← hrest]; simp
    -- somebody has a remainder that is not taken
    have hex : ∃ i, i < n ∧ 0 < f i ∧ z i = false := by
      refine Classical.byContradiction fun hno => ?_
      have : (List.range n).countP (fun i => decide (0 < f i)) ≤ (List.range n).countP z := countP_le fun i hi hp => by
        cases hzi : z i with
        | true => rfl
        | false => exact absurd ⟨i, hi, by simpa using hp, hzi⟩ hno
      rw [hz.many] at this
      omega
    obtain ⟨i0, hi0, hf0, hz0⟩ := hex
    have hne : rest ≠ [] := by intro e; rw [e] at hlen; simp at hlen; omega
    obtain ⟨hidx, hlt, hmax, hfirst⟩ := coinAt_spec hne
    have hge := maxOf_ge (xs := rest)
    obtain ⟨j, hjd⟩ : ∃ j, coinAt rest = j := ⟨_, rfl⟩
    rw [hjd] at hlt hmax hfirst
    clear hidx
    rw [hlen] at hlt
    have hM0 : 0 < maxOf rest := by
      have := hge (f i0) (List.mem_of_getElem? (i := i0) (by rw [hat i0 hi0, hz0]; simp))
      omega
    have hj := hat j hlt
    rw [hmax] at hj
    have hzj : z j = false := by
      cases h : z j with
      | false => rfl
      | true => rw [h] at hj; simp at hj; omega
    rw [hzj] at hj
    have hfj : maxOf rest = f j := by simpa using hj
    have hz' : Coined f n (k + 1) (fun i => z i || i == j) := by
      refine ⟨by rw [countP_or z j n hzj, hz.many, if_pos hlt], fun i hi => ?_, fun i q hi hq h1 h2 => ?_⟩
      · simp only [Bool.or_eq_true, beq_iff_eq] at hi
        rcases hi with hi | rfl
        · exact hz.inside i hi
        · exact ⟨hlt, by omega⟩
      · simp only [Bool.or_eq_false_iff, beq_eq_false_iff_ne] at h2
        simp only [Bool.or_eq_true, beq_iff_eq] at h1
        rcases h1 with h1 | rfl
        · exact hz.first i q hi hq h1 h2.1
        · have hq2 := hat q hq
          rw [h2.1] at hq2
          simp only [Bool.false_eq_true, if_false] at hq2
          have h3 := hge (f q) (List.mem_of_getElem? hq2)
          unfold aheadB
          by_cases h4 : f q < f i
          · simp [h4]
          · have h5 : f i = f q := by omega
            have h6 : ¬ q < i := fun hlt2 => hfirst q hlt2 (by rw [hq2, hfj, h5])
            have h7 : i < q := by omega
            simp [h5, h7]
    obtain ⟨z', hc, he⟩ := coins_spec f g n h0 m (k + 1) _ hz' (by omega)
    refine ⟨z', by rw [show k + (m + 1) = k + 1 + m by omega]; exact hc, ?_⟩
    rw [coins, hjd]
    have e1 : (((List.range n).map fun i => g i + if z i = true then 1 else 0).set j (((List.range n).map fun i => g i + if z i = true then 1 else 0).getD j 0 + 1)) = (List.range n).map fun i => g i + if (z i || i == j) = true then 1 else 0 := by
      apply List.ext_getElem
      · simp
      · intro q h1 h2
        simp only [List.length_map, List.length_range] at h2
        rw [List.getElem_set]
        by_cases h3 : j = q
        · subst h3
          simp [hzj, hlt]
        · have h4 : ¬ q = j := fun e => h3 e.symm
          simp [h3, h4]
    have e2 : rest.set j 0 = (List.range n).map fun i => if (z i || i == j) = true then 0 else f i := by
      apply List.ext_getElem
      · simp [hlen]
      · intro q h1 h2
        simp only [List.length_map, List.length_range] at h2
        have hq := hat q h2
        rw [List.getElem_set]
        by_cases h3 : j = q
        · subst h3
          simp
        · have h4 : ¬ q = j := fun e => h3 e.symm
          rw [if_neg h3]
          rw [List.getElem?_eq_getElem (by omega)] at hq
          simp only [Option.some.injEq] at hq
          rw [hq]
          simp [h4]
    rw [e1, e2]
    exact he

theorem aheadB_asymm {f : Nat → Int} {i j : Nat} (h : aheadB f i j = true) : aheadB f j i = false := by
  unfold aheadB at h ⊢
  simp only [Bool.or_eq_true, Bool.and_eq_true, decide_eq_true_eq] at h
  simp only [Bool.or_eq_false_iff, Bool.and_eq_false_iff, decide_eq_false_iff_not]
  omega
/-- Who has got a coin: those before whom fewer get one than there are coins. -/
theorem coined_iff {f : Nat → Int} {n k : Nat} {z : Nat → Bool} (h : Coined f n k z) {i : Nat} (hi : i < n) : z i = true ↔ ahead f n i < k := by
  constructor
  · intro hz
    have h1 : (List.range n).countP (aheadB f i) ≤ (List.range n).countP (fun q => z q && !(q == i)) := countP_le fun q hq hp => by
      have h2 := aheadB_asymm hp
      have h3 : z q = true := by
        cases hzq : z q with
        | true => rfl
        | false => rw [h.first i q hi hq hz hzq] at h2; cases h2
      have h4 : q ≠ i := by rintro rfl; rw [hp] at h2; simp at h2
      simp [h3, h4]
    have h5 := countP_or (fun q => z q && !(q == i)) i n (by simp)
    have h6 : (fun q => (z q && !(q == i)) || q == i) = z := by
      funext q
      by_cases hq : q = i
      · subst hq; simp [hz]
      · have : (q == i) = false := by simp [hq]
        simp [this]
    rw [h6, if_pos hi, h.many] at h5
    unfold ahead
    omega
  · intro hlt
    cases hz : z i with
    | true => rfl
    | false =>
      have : (List.range n).countP z ≤ (List.range n).countP (aheadB f i) := countP_le fun q hq hp => h.first q i hq hi hp hz
      rw [h.many] at this
      unfold ahead at hlt
      omega

theorem rm_bd {ds : List Int} {sum : Int} (hw : 0 < totalFrom 0 ds) (i : Nat) : 0 ≤ rm ds sum i ∧ rm ds sum i < totalFrom 0 ds := ⟨Int.emod_nonneg _ (by omega), Int.emod_lt_of_pos _ hw⟩
theorem left_le {ds : List Int} {sum : Int} (hw : 0 < totalFrom 0 ds) : (leftOf ds sum).toNat ≤ (List.range ds.length).countP (fun i => decide (0 < rm ds sum i)) := by
  have h1 := rest_sum ds sum
  have h2 := sumTo_countP (f := rm ds sum) (t := totalFrom 0 ds) (fun i => (rm_bd hw i).1) (fun i => by have := (rm_bd (sum := sum) hw i).2; omega) ds.length
  rw [← h1] at h2
  have h3 := Int.le_of_mul_le_mul_left h2 hw
  omega
theorem shareL_ref (ds : List Int) (sum : Int) (h0 : 0 ≤ sum) : shareL ds sum = refShare ds sum := by
  unfold shareL refShare
  by_cases h : totalFrom 0 ds ≤ sum
  · rw [if_pos h, if_pos h]
  · rw [if_neg h, if_neg h]
    have hw : 0 < totalFrom 0 ds := by omega
    have hl := left_nonneg (sum := sum) hw
    obtain ⟨z, hz, he⟩ := coins_spec (rm ds sum) (fl ds sum) ds.length (fun i => (rm_bd hw i).1) (leftOf ds sum).toNat 0 (fun _ => false) ⟨by simp, fun i hi => by simp at hi, fun i j _ _ hi => by simp at hi⟩ (by have := left_le (sum := sum) hw; omega)
    simp only [Bool.false_eq_true, if_false, Int.add_zero] at he
    rw [he]
    apply List.map_congr_left
    intro i hi
    have := coined_iff hz (List.mem_range.1 hi)
    congr 1
    by_cases hzi : z i = true
    · rw [if_pos hzi, if_pos (by have := this.1 hzi; omega)]
    · rw [if_neg hzi, if_neg (fun h => hzi (this.2 (by omega)))]
end Go.Proofs.Ytogdhkecpjndlaa.C

/- The laws' small helpers: Thin, to, between, claim, most, fault, list, Count. -/
namespace Go.Proofs.Ytogdhkecpjndlaa.C
open Go.RowKit
set_option maxRecDepth 100000

def thin (l : Led) : Bool := decide (l.gs.length ≤ 30) && decide (l.cs.length ≤ 30)

theorem Thin_c (l : Led) (A C : Option Addr) (cA cC : Nat) (w : World) :
    Calls Try.prog 21 #[ledV l A C cA cC] w fun e w' => e = .returned (.bool (thin l)) ∧ G w w' := by
  by_cases h : l.gs.length ≤ 30
  · have h1 : (l.gs.length : Int) ≤ 30 := by omega
    go_enter Try.func21, Try.ntmps21
    go_wp2_with fail
    go_ret
    exact ⟨by simp [thin, h] <;> omega, (G.refl _).alloc _⟩
  · have h1 : ¬ (l.gs.length : Int) ≤ 30 := by omega
    go_enter Try.func21, Try.ntmps21
    go_wp2_with fail
    go_ret
    exact ⟨by simp [thin, h], (G.refl _).alloc _⟩

theorem to_c (lo hi : Int) (w : World) : Calls Try.prog 61 #[.agg #[.int .i64 lo, .int .i64 hi]] w fun e w' => e = .returned (.agg #[.int .i64 lo, .int .i64 hi]) ∧ G w w' := by
  go_enter Try.func61, Try.ntmps61
  go_upto_region 1 with fail
  have q : Blk ((w.alloc (.cells #[.int .i64 lo, .int .i64 hi] 23)).alloc (.cells #[.int .i64 0, .int .i64 0] 34)) (w.heap.size + 1) 34 #[.int .i64 0, .int .i64 0] := Blk.new' (by simp)
  have hB : G w ((w.alloc (.cells #[.int .i64 lo, .int .i64 hi] 23)).alloc (.cells #[.int .i64 0, .int .i64 0] 34)) := ((G.refl _).alloc _).alloc _
  have d0 := (((G.refl (w.alloc (.cells #[.int .i64 lo, .int .i64 hi] 23))).alloc (.cells #[.int .i64 0, .int .i64 0] 34))).cell (newCell w _ _ 0 (v := .int .i64 lo) rfl)
  have d1 := (((G.refl (w.alloc (.cells #[.int .i64 lo, .int .i64 hi] 23))).alloc (.cells #[.int .i64 0, .int .i64 0] 34))).cell (newCell w _ _ 1 (v := .int .i64 hi) rfl)
  generalize (w.alloc _).alloc _ = W at *
  have c0 := q.cell 0 (v := .int .i64 0) rfl
  have c1 := q.cell 1 (v := .int .i64 0) rfl
  have f0 := q.frozen 0
  have f1 := q.frozen 1
  go_wp2_with fail
  have q2 := (q.set 0 (.int .i64 lo)).set 1 (.int .i64 hi)
  have e0 := q2.cell 0 (v := .int .i64 lo) rfl
  have e1 := q2.cell 1 (v := .int .i64 hi) rfl
  refine bodyPost_ret (v := .agg #[.int .i64 lo, .int .i64 hi]) (by simp [results, Try.results61, go_sem, e0, e1]) rfl ⟨rfl, (hB.setCell (by simp) _).setCell (by simp) _⟩

theorem rng_c (lo hi : Int) (w : World) : Calls Try.prog 64 #[.int .i64 lo, .int .i64 hi] w fun e w' => e = .returned (.agg #[.int .i64 lo, .int .i64 hi]) ∧ G w w' := by
  go_enter Try.func64, Try.ntmps64
  go_upto_region 1 with fail
  have q : Blk (w.alloc (.cells #[.int .i64 0, .int .i64 0] 34)) w.heap.size 34 #[.int .i64 0, .int .i64 0] := Blk.new _ _ _
  have hB : G w (w.alloc (.cells #[.int .i64 0, .int .i64 0] 34)) := (G.refl _).alloc _
  generalize w.alloc _ = W at *
  have c0 := q.cell 0 (v := .int .i64 0) rfl
  have c1 := q.cell 1 (v := .int .i64 0) rfl
  have f0 := q.frozen 0
  have f1 := q.frozen 1
  go_wp2_with fail
  have q2 := (q.set 0 (.int .i64 lo)).set 1 (.int .i64 hi)
  have e0 := q2.cell 0 (v := .int .i64 lo) rfl
  have e1 := q2.cell 1 (v := .int .i64 hi) rfl
  refine bodyPost_ret (v := .agg #[.int .i64 lo, .int .i64 hi]) (by simp [results, Try.results64, go_sem, e0, e1]) rfl ⟨rfl, (hB.setCell (by simp) _).setCell (by simp) _⟩

theorem mkClaim_c (who due : Int) (w : World) : Calls Try.prog 72 #[.int .i64 who, .int .i64 due] w fun e w' => e = .returned (.agg #[.int .i64 who, .int .i64 due, .int .i64 due]) ∧ G w w' := by
  go_enter Try.func72, Try.ntmps72
  go_wp2_with fail
  have q0 : Blk (w.alloc (.cells #[.int .i64 0, .int .i64 0, .int .i64 0] 110)) w.heap.size 110 #[.int .i64 0, .int .i64 0, .int .i64 0] := Blk.new _ _ _
  have hB : G w (w.alloc (.cells #[.int .i64 0, .int .i64 0, .int .i64 0] 110)) := (G.refl _).alloc _
  generalize w.alloc _ = W at *
  refine (rng_c _ _ _).mono ?_
  rintro e w1 ⟨rfl, hb⟩
  have q := q0.grow hb
  have c0 := q.cell 0 (v := .int .i64 0) rfl
  have c1 := q.cell 1 (v := .int .i64 0) rfl
  have c2 := q.cell 2 (v := .int .i64 0) rfl
  have f0 := q.frozen 0
  have f1 := q.frozen 1
  have f2 := q.frozen 2
  go_wp2_with fail
  have q2 := ((q.set 0 (.int .i64 who)).set 1 (.int .i64 due)).set 2 (.int .i64 due)
  have e0 := q2.cell 0 (v := .int .i64 who) rfl
  have e1 := q2.cell 1 (v := .int .i64 due) rfl
  have e2 := q2.cell 2 (v := .int .i64 due) rfl
  refine bodyPost_ret (v := .agg #[.int .i64 who, .int .i64 due, .int .i64 due]) (by simp [results, Try.results72, go_sem, e0, e1, e2]) rfl ⟨rfl, (((hB.trans hb).setCell (by simp) _).setCell (by simp) _).setCell (by simp) _⟩

theorem fault_c (l : Led) (A C : Option Addr) (cA cC : Nat) (w : World) (hL : LedR w l A C) (hg : l.gs.length ≤ 30) (hc : l.cs.length ≤ 30) :
    Calls Try.prog 59 #[ledV l A C cA cC] w fun e w' => e = .returned (.int .i64 (fault l)) ∧ G w w' := by
  have HA := Lib.hid (fun w1 (hb : G w w1) => Fault_c l A C cA cC w1 (hL.grow hb) hg hc)
  go_enter Try.func59, Try.ntmps59
  go_wp2_with fail
  refine (HA.out _ ((G.refl w).alloc _)).mono ?_
  rintro e w1 ⟨rfl, hb⟩
  go_wp2_with fail
  go_ret
  exact ⟨rfl, ((G.refl w).alloc _).trans hb⟩

theorem OwnI.empty (w : World) : OwnI w.heap.size (w.alloc (.cells #[] 3)) (.slice (some ⟨w.heap.size, 0, none⟩) 0 0) [] :=
  ⟨rfl, .inr ⟨w.heap.size, 0, #[], rfl, Nat.le_refl _, heap_alloc_new _ _, Nat.le_refl _, by simp [maxLen], rfl, rfl⟩⟩

theorem list_c (A : Option Addr) (c : Nat) (xs : List Int) (w : World) (hX : RowI w A xs) (hl : xs.length ≤ 1000000) :
    Calls Try.prog 81 #[.slice A xs.length c] w fun e w' => (∃ v, e = .returned v ∧ OwnI w.heap.size w' v xs) ∧ G w w' := by
  have HO0 := Lib.hid (OwnI.empty w)
  have hB : G w (w.alloc (.cells #[] 3)) := (G.refl w).alloc _
  have hA : xs = [] ∨ ∃ b off, A = some ⟨b, off, none⟩ := by
    cases xs with
    | nil => exact .inl rfl
    | cons x xs => obtain ⟨b, off, e, -⟩ := hX 0 x rfl; exact .inr ⟨b, off, e⟩
  rcases hA with rfl | ⟨b, off, rfl⟩
  · rcases A with _ | ⟨b, off, spot⟩
    all_goals
      go_enter Try.func81, Try.ntmps81
      go_wp2_with fail
      go_ret
      exact ⟨⟨_, rfl, HO0.out⟩, hB⟩
  · have HX := Lib.hid hX
    have hcl : ∀ j y, xs[j]? = some y → (w.alloc (.cells #[] 3)).cell? ⟨b, off + j, none⟩ = some (.int .i64 y) := fun j y hj => by
      obtain ⟨b', off', e, h0⟩ := HX.out j y hj
      cases e
      exact hB.cell h0
    have HCL := Lib.hid hcl
    clear hcl
    go_enter Try.func81, Try.ntmps81
    go_wp2_with (at_builtin; refine app_is w.heap.size rfl _ _ rfl _ _ _ rfl b off xs.length c rfl rfl HCL.out HO0.out (by simp) (by simp) (by omega) ?_; intro v1 w1 h1 h2 h3)
    have H1 := Lib.hid h1
    have hg := hB.grown h2 (fun k hk => own_base HO0.out k hk)
    clear h1 h2 h3
    go_wp2_with fail
    go_ret
    exact ⟨⟨_, rfl, H1.out⟩, hg⟩

theorem most_c (w : World) : Calls Try.prog 71 #[] w fun e w' => (∃ B cB, e = .returned (cntArg ⟨7, [4, 3, 2]⟩ B cB) ∧ RowI w' B [4, 3, 2]) ∧ G w w' := by
  go_enter Try.func71, Try.ntmps71
  go_wp2_with fail
  have hB : G w ((w.alloc (.cells #[.int .i64 7, .slice (some ⟨w.heap.size + 1, 0, none⟩) 3 3] 51)).alloc (.cells #[.int .i64 4, .int .i64 3, .int .i64 2] 3)) := ((G.refl _).alloc _).alloc _
  have q1 : Blk ((w.alloc (.cells #[.int .i64 7, .slice (some ⟨w.heap.size + 1, 0, none⟩) 3 3] 51)).alloc (.cells #[.int .i64 4, .int .i64 3, .int .i64 2] 3)) (w.heap.size + 1) 3 #[.int .i64 4, .int .i64 3, .int .i64 2] := Blk.new' (by simp)
  have q0 : Blk ((w.alloc (.cells #[.int .i64 7, .slice (some ⟨w.heap.size + 1, 0, none⟩) 3 3] 51)).alloc (.cells #[.int .i64 4, .int .i64 3, .int .i64 2] 3)) w.heap.size 51 #[.int .i64 7, .slice (some ⟨w.heap.size + 1, 0, none⟩) 3 3] := (Blk.new _ _ _).grow ((G.refl _).alloc _)
  generalize (w.alloc _).alloc _ = W at *
  have e0 := q0.cell 0 (v := .int .i64 7) rfl
  have e1 := q0.cell 1 (v := .slice (some ⟨w.heap.size + 1, 0, none⟩) 3 3) rfl
  have hI : BlkI W (w.heap.size + 1) [4, 3, 2] := q1
  refine bodyPost_ret (v := cntArg ⟨7, [4, 3, 2]⟩ (some ⟨w.heap.size + 1, 0, none⟩) 3) (by simp [results, Try.results71, go_sem, e0, e1]) rfl ⟨⟨_, _, rfl, hI.row⟩, hB⟩

set_option maxHeartbeats 2000000 in
theorem Count_c (x : Cn) (B : Option Addr) (cB : Nat) (w : World) (hB : RowI w B x.bs) (hl : x.bs.length ≤ 1000000) :
    Calls Try.prog 30 #[cntArg x B cB] w fun e w' => (∃ B' cB', e = .returned (cntArg x B' cB') ∧ RowI w' B' x.bs) ∧ G w w' := by
  have HX := Lib.hid hB
  clear hB
  go_enter Try.func30, Try.ntmps30
  go_wp2_with fail
  have q0 : Blk ((w.alloc (.cells #[.int .i64 x.r, .slice B x.bs.length cB] 49)).alloc (.cells #[.int .i64 0, .slice none 0 0] 51)) w.heap.size 49 #[.int .i64 x.r, .slice B x.bs.length cB] := (Blk.new _ _ _).grow ((G.refl _).alloc _)
  have q1 : Blk ((w.alloc (.cells #[.int .i64 x.r, .slice B x.bs.length cB] 49)).alloc (.cells #[.int .i64 0, .slice none 0 0] 51)) (w.heap.size + 1) 51 #[.int .i64 0, .slice none 0 0] := Blk.new' (by simp)
  have hB : G w ((w.alloc (.cells #[.int .i64 x.r, .slice B x.bs.length cB] 49)).alloc (.cells #[.int .i64 0, .slice none 0 0] 51)) := ((G.refl _).alloc _).alloc _
  generalize (w.alloc _).alloc _ = W at *
  refine wp_region_A (by as_aux_lemma => kernel_rfl) ?_
  obtain ⟨z, hz⟩ : ∃ z : World, z = { W with drawn := W.drawn + 1 } := ⟨_, rfl⟩
  rw [← hz]
  have gz : G W z := by rw [hz]; exact (G.refl _).drew
  clear hz
  have HS : z.cell? ⟨w.heap.size, 0, none⟩ = some (.int .i64 x.r) ∧ z.cell? ⟨w.heap.size, 1, none⟩ = some (.slice B x.bs.length cB) := ⟨(q0.grow gz).cell 0 rfl, (q0.grow gz).cell 1 rfl⟩
  refine wpAny_fork (fun w' => w'.cell? ⟨w.heap.size, 0, none⟩ = some (.int .i64 x.r) ∧ w'.cell? ⟨w.heap.size, 1, none⟩ = some (.slice B x.bs.length cB)) 5 ?_
  refine wpAnyU_take (i := 0) (v := .pointer (some ⟨w.heap.size, 0, none⟩)) rfl (by as_aux_lemma => kernel_rfl) (fun _ _ _ h => h) HS (Or.inl ⟨by rfl, ?_⟩) ?_
  · rintro w ⟨s0, s1⟩
    go_simp
  simp only [Act.put, List.setIfInBounds_toArray, List.set_cons_succ, List.set_cons_zero]
  refine wpAnyU_take (i := 1) (v := .int .i64 x.r) rfl (by as_aux_lemma => kernel_rfl) (fun _ _ _ h => h) HS (Or.inl ⟨by rfl, ?_⟩) ?_
  · rintro w ⟨s0, s1⟩
    go_simp
  simp only [Act.put, List.setIfInBounds_toArray, List.set_cons_succ, List.set_cons_zero]
  refine wpAnyU_take (i := 2) (v := .pointer (some ⟨w.heap.size, 1, none⟩)) rfl (by as_aux_lemma => kernel_rfl) (fun _ _ _ h => h) HS (Or.inl ⟨by rfl, ?_⟩) ?_
  · rintro w ⟨s0, s1⟩
    go_simp
  simp only [Act.put, List.setIfInBounds_toArray, List.set_cons_succ, List.set_cons_zero]
  refine wpAnyU_take (i := 3) (v := .slice B x.bs.length cB) rfl (by as_aux_lemma => kernel_rfl) (fun _ _ _ h => h) HS (Or.inl ⟨by rfl, ?_⟩) ?_
  · rintro w ⟨s0, s1⟩
    go_simp
  simp only [Act.put, List.setIfInBounds_toArray, List.set_cons_succ, List.set_cons_zero]
  refine wpAnyT_one (i := 4) (by as_aux_lemma => kernel_rfl) rfl ?_
  go_wp2_with fail
  refine (list_c B cB x.bs z (HX.out.grow (hB.trans gz)) hl).mono ?_
  rintro e w1 ⟨⟨v, rfl, ho⟩, hb⟩
  go_wp2_with fail
  refine ⟨⟨hb.cell HS.1, hb.cell HS.2⟩, ?_⟩
  refine wpAnyT_close (by as_aux_lemma => kernel_rfl) ?_
  refine wpAny_part (k := 5) (n := 2) (f := 0) rfl rfl (by as_aux_lemma => kernel_rfl) ?_
  simp only [List.drop_succ_cons, List.drop_zero, List.take_succ_cons, List.take_zero]
  obtain ⟨B2, c2, rfl, -, hr⟩ := ho.row
  have HO := Lib.hid ho
  have hlt1 := q1.lt
  have hlt2 := gz.size
  have q2 := (q1.grow gz).grow hb
  have d0 := q2.cell 0 (v := .int .i64 0) rfl
  have d1 := q2.cell 1 (v := .slice none 0 0) rfl
  have f0 := q2.frozen 0
  have f1 := q2.frozen 1
  have HR := Lib.hid hr
  clear ho hr
  go_wp2_with fail
  refine wpAny_done (by as_aux_lemma => kernel_rfl) ?_
  go_wp2_with fail
  have q3 := (q2.set 0 (.int .i64 x.r)).set 1 (.slice B2 x.bs.length c2)
  have e0 := q3.cell 0 (v := .int .i64 x.r) rfl
  have e1 := q3.cell 1 (v := .slice B2 x.bs.length c2) rfl
  refine bodyPost_ret (v := cntArg x B2 c2) (by simp [results, Try.results30, go_sem, e0, e1]) rfl ⟨⟨B2, c2, rfl, ?_⟩, (((hB.trans gz).trans hb).setCell (by simp) _).setCell (by simp) _⟩
  have ho2 := own_block HO.out (w1 := (w1.setCell ⟨w.heap.size + 1, 0, none⟩ (.int .i64 x.r)).setCell ⟨w.heap.size + 1, 1, none⟩ (.slice B2 x.bs.length c2)) (fun k hk => by
    have hk2 := own_base HO.out k hk
    rw [Below.heap_setCell _ _ _ _ (by show k ≠ w.heap.size + 1; omega), Below.heap_setCell _ _ _ _ (by show k ≠ w.heap.size + 1; omega)])
  obtain ⟨A3, c3, e3, -, hr3⟩ := OwnI.row ho2
  cases e3
  exact hr3

end Go.Proofs.Ytogdhkecpjndlaa.C

/- The laws' helper that tells whether two lists are equal. -/
namespace Go.Proofs.Ytogdhkecpjndlaa.C
open Go.RowKit
set_option maxRecDepth 100000

set_option maxHeartbeats 2000000 in
theorem same_c (A B : Option Addr) (cA cB : Nat) (xs ys : List Int) (w : World) (hX : RowI w A xs) (hY : RowI w B ys) (hl : xs.length ≤ 1000000) (hm : ys.length ≤ 1000000) :
    Calls Try.prog 32 #[.slice A xs.length cA, .slice B ys.length cB] w fun e w' => e = .returned (.bool (decide (xs = ys))) ∧ G w w' := by
  have HX := Lib.hid hX
  have HY := Lib.hid hY
  clear hX hY
  by_cases hne : xs.length = ys.length
  · have hnei : ((xs.length : Int) != ys.length) = false := by simp; omega
    have HN := Lib.hid hne
    clear hne
    go_enter Try.func32, Try.ntmps32
    go_wp2_with fail
    go_loopw [5] (fun v5 wr => ∃ (k : Nat), k ≤ xs.length ∧ v5 = .int .i64 k ∧ Hid (∀ j : Nat, j < k → xs[j]? = ys[j]?) ∧ G w wr) (fun v5 _ => xs.length - (intOf v5).toNat)
    case atStart => exact ⟨0, by omega, rfl, fun j hj => by omega, G.refl _⟩
    case round =>
      obtain ⟨k, hk, rfl, HE, gr⟩ := hrel
      by_cases hlt : k < xs.length
      · obtain ⟨b, off, rfl, d0⟩ := HX.out.at hlt
        have hlt2 : k < ys.length := by have := HN.out; omega
        obtain ⟨b2, off2, rfl, d1⟩ := HY.out.at hlt2
        have f0 := gr.cell d0
        have f1 := gr.cell d1
        clear d0 d1
        by_cases he : xs[k] = ys[k]
        · have HE2 := Lib.hid he
          have heb : (xs[k] != ys[k]) = false := by simp [he]
          generalize hx : xs[k] = x at *
          generalize hy : ys[k] = y at *
          have HX1 := Lib.hid hx
          have HY1 := Lib.hid hy
          clear hx hy he
          go_wp2_with fail
          go_quiet (fail)
          go_wp2_with fail
          go_roundw
          case rel => exact ⟨k + 1, by omega, by go_num, fun j hj => by
            rcases Nat.lt_succ_iff_lt_or_eq.1 hj with h | rfl
            · exact HE.out j h
            · rw [List.getElem?_eq_getElem hlt, List.getElem?_eq_getElem hlt2, HX1.out, HY1.out, HE2.out], gr.drewN _⟩
          case measure => simp [intOf]; omega
        · have heb : (xs[k] != ys[k]) = true := by simp [he]
          have HE2 := Lib.hid he
          have hres : Hid (decide (xs = ys) = false) := by
            refine decide_eq_false (fun e => HE2.out ?_)
            subst e
            rfl
          clear he
          go_wp2_with fail
          go_quiet (fail)
          go_wp2_with fail
          go_ret
          exact ⟨ret_b hres.out.symm, gr.drewN _⟩
      · have hres : Hid (decide (xs = ys) = true) := by
          refine decide_eq_true (List.ext_getElem? fun j => ?_)
          rcases Nat.lt_or_ge j k with h | h
          · exact HE.out j h
          · rw [List.getElem?_eq_none (by omega), List.getElem?_eq_none (by have := HN.out; omega)]
        go_wp2_with fail
        go_ret
        exact ⟨ret_b hres.out.symm, gr⟩
  · have hnei : ((xs.length : Int) != ys.length) = true := by simp; omega
    have hres : Hid (decide (xs = ys) = false) := decide_eq_false (fun e => hne (by rw [e]))
    clear hne
    go_enter Try.func32, Try.ntmps32
    go_wp2_with fail
    go_ret
    exact ⟨ret_b hres.out.symm, G.refl _⟩
end Go.Proofs.Ytogdhkecpjndlaa.C

/- The laws' helper that turns a ledger of the reference into one of the program. -/
namespace Go.Proofs.Ytogdhkecpjndlaa.C
open Go.RowKit
set_option maxRecDepth 100000

section
variable {ops : Array Oper} {rest : List Oper} {o : Oper} {a : Act} {Q : Exit → Act → World → Prop} {W : World}
theorem app_3 (t e : TypeId) (ht : Try.prog.underlying t = some (.slice e)) (hinfo : (Try.prog.info? e).map (fun i => (i.zero, i.size, i.bytes)) = some (some (.agg #[(.int .i64 0), (.int .i64 0), (.int .i64 0)]), 3, 24)) (base : Nat) (hgd : o.guard = none) (s x : Operand)
    (ho : o.op = .call { callee := .builtin .append, args := #[s, x], argTypes := #[t, t] }) (v : Value) (xs : List T3) (y : T3) (hs : a.eval s = v) (b : Nat)
    (hx : a.eval x = .slice (some ⟨b, 0, none⟩) 1 1) (hn0 : W.cell? ⟨b, 0, none⟩ = some (.int .i64 y.a)) (hn1 : W.cell? ⟨b, 1, none⟩ = some (.int .i64 y.lo)) (hn2 : W.cell? ⟨b, 2, none⟩ = some (.int .i64 y.hi)) (HO : Own3 e base W v xs) (hbase : base ≤ W.heap.size) (hl : xs.length ≤ 100000000)
    (h : ∀ v1 w1, Own3 e base w1 v1 (xs ++ [y]) → W.grownBy w1 v.ownBlock → (v1.ownBlock = v.ownBlock ∨ v1.ownBlock = some W.heap.size) → wpList Try.prog ops Q rest (a.put o.dst v1) w1) :
    wpList Try.prog ops Q (o :: rest) a W :=
  app_cells t e _ 3 24 ht hinfo rfl (by omega) (by omega) base hgd s x ho v xs.length (cells3 xs) (cells3 [y]) hs b hx rfl (by simp [cells3, Value.oneCell'])
    (fun j u hj => by
      match j, hj with
      | 0, hj => simp [cells3] at hj; subst hj; exact hn0
      | 1, hj => simp [cells3] at hj; subst hj; exact hn1
      | 2, hj => simp [cells3] at hj; subst hj; exact hn2
      | j + 3, hj => simp [cells3] at hj) HO hbase hl
    fun v1 w1 h2 h3 h4 => h v1 w1 (by simpa [Own3, cells3_append] using h2) h3 h4
end
theorem Own3.nil (e : TypeId) (w : World) (base : Nat) : Own3 e base w (.slice none 0 0) [] := World.ownsRow_nil _ _ _ _

theorem grownBy_far {a b c : World} {r row : Option Nat} (h : a.grownBy b r) (k : b.grownBy c row) (hr : ∀ g, row = some g → a.heap.size ≤ g) : a.grownBy c r :=
  ⟨k.os.trans h.os, k.tape.trans h.tape, k.output.trans h.output, Nat.le_trans h.size k.size, fun i hi hn => (k.block i (Nat.lt_of_lt_of_le hi h.size) (fun e => by have := hr i e.symm; omega)).trans (h.block i hi hn)⟩
theorem grownBy_G {a b c : World} {r : Option Nat} (h : a.grownBy b r) (k : G b c) : a.grownBy c r := grownBy_far h (grownBy_of k) (fun _ e => by cases e)
theorem G.grownBy' {a b c : World} {r : Option Nat} (h : G a b) (k : b.grownBy c r) (hr : ∀ g, r = some g → a.heap.size ≤ g) : G a c := h.grown k hr
theorem Row3.grown {w w1 : World} {A : Option Addr} {xs : List T3} {r : Option Nat} (h : Row3 w A xs) (k : w.grownBy w1 r) (hr : ∀ b off, A = some ⟨b, off, none⟩ → r ≠ some b) : Row3 w1 A xs := fun j x hj => by
  obtain ⟨b, off, e, h0, h1, h2⟩ := h j x hj
  exact ⟨b, off, e, grown_cell k h0 (hr b off e), grown_cell k h1 (hr b off e), grown_cell k h2 (hr b off e)⟩
theorem Row3.lt {w : World} {A : Option Addr} {xs : List T3} (h : Row3 w A xs) (hp : xs ≠ []) : ∃ b off, A = some ⟨b, off, none⟩ ∧ b < w.heap.size := by
  cases xs with
  | nil => exact absurd rfl hp
  | cons x xs =>
    obtain ⟨b, off, e, h0, -⟩ := h 0 x rfl
    exact ⟨b, off, e, cell_lt h0⟩

set_option maxHeartbeats 4000000 in
theorem Ledger_c (l : Led) (A C : Option Addr) (cA cC : Nat) (w : World) (hL : LedR w l A C) (hg : l.gs.length ≤ 100) (hc : l.cs.length ≤ 100) :
    Calls Try.prog 24 #[ledV l A C cA cC] w fun e w' => (∃ A' C' cA' cC', e = .returned (ledV l A' C' cA' cC') ∧ LedR w' l A' C' ∧ l.gs.length ≤ cA' ∧ l.cs.length ≤ cC') ∧ G w w' := by
  have HG := Lib.hid hL.g
  have HC := Lib.hid hL.c
  clear hL
  go_enter Try.func24, Try.ntmps24
  go_upto_region 1 with fail
  have q0 : Blk ((w.alloc (.cells #[.int .i64 l.lo, .int .i64 l.hi, .slice A l.gs.length cA, .slice C l.cs.length cC] 27)).alloc (.cells #[.int .i64 0, .int .i64 0, .slice none 0 0, .slice none 0 0] 38)) w.heap.size 27 #[.int .i64 l.lo, .int .i64 l.hi, .slice A l.gs.length cA, .slice C l.cs.length cC] := (Blk.new _ _ _).grow ((G.refl _).alloc _)
  have q1 : Blk ((w.alloc (.cells #[.int .i64 l.lo, .int .i64 l.hi, .slice A l.gs.length cA, .slice C l.cs.length cC] 27)).alloc (.cells #[.int .i64 0, .int .i64 0, .slice none 0 0, .slice none 0 0] 38)) (w.heap.size + 1) 38 #[.int .i64 0, .int .i64 0, .slice none 0 0, .slice none 0 0] := Blk.new' (by simp)
  have hB : G w ((w.alloc (.cells #[.int .i64 l.lo, .int .i64 l.hi, .slice A l.gs.length cA, .slice C l.cs.length cC] 27)).alloc (.cells #[.int .i64 0, .int .i64 0, .slice none 0 0, .slice none 0 0] 38)) := ((G.refl _).alloc _).alloc _
  generalize (w.alloc _).alloc _ = W at *
  have f0 := q0.cell 0 (v := .int .i64 l.lo) rfl
  have f1 := q0.cell 1 (v := .int .i64 l.hi) rfl
  go_wp2_with fail
  refine (to_c _ _ _).mono ?_
  rintro e w1 ⟨rfl, hb1⟩
  go_wp2_with fail
  have r0 := q0.grow (hb1.alloc (.cells #[.int .i64 l.lo, .int .i64 l.hi, .slice none 0 0, .slice none 0 0] 38))
  have r1 := q1.grow (hb1.alloc (.cells #[.int .i64 l.lo, .int .i64 l.hi, .slice none 0 0, .slice none 0 0] 38))
  have r3 : Blk (w1.alloc (.cells #[.int .i64 l.lo, .int .i64 l.hi, .slice none 0 0, .slice none 0 0] 38)) w1.heap.size 38 #[.int .i64 l.lo, .int .i64 l.hi, .slice none 0 0, .slice none 0 0] := Blk.new _ _ _
  have hBV : G w (w1.alloc (.cells #[.int .i64 l.lo, .int .i64 l.hi, .slice none 0 0, .slice none 0 0] 38)) := (hB.trans hb1).alloc _
  have hlt0 := (q0.grow hb1).lt
  have hlt1 := (q1.grow hb1).lt
  have hVs : (w1.alloc (.cells #[.int .i64 l.lo, .int .i64 l.hi, .slice none 0 0, .slice none 0 0] 38)).heap.size = w1.heap.size + 1 := by simp
  generalize hn3 : w1.heap.size = n3 at *
  clear hn3 hb1 q0 q1 f0 f1 hB
  generalize w1.alloc _ = V at *
  have hGV := Lib.hid (HG.out.grow hBV)
  have hCV := Lib.hid (HC.out.grow hBV)
  have hw3 : w.heap.size ≤ n3 := by omega
  have HV0 := Lib.hid (fun (wr : World) (h : V.grownBy wr (some n3)) => (hBV.grown h (fun k e => by cases e; exact hw3) : G w wr))
  go_loopw [4] (fun v4 wr => ∃ (k : Nat) (v : Value), k ≤ l.gs.length ∧ v4 = .int .i64 k ∧ Hid (Blk wr n3 38 #[.int .i64 l.lo, .int .i64 l.hi, v, .slice none 0 0]) ∧ Hid (Own3 114 (n3 + 1) wr v (l.gs.take k)) ∧ Hid (V.grownBy wr (some n3))) (fun v4 _ => l.gs.length - (intOf v4).toNat)
  case atStart => exact ⟨0, .slice none 0 0, by omega, rfl, r3, Own3.nil _ _ _, grownBy_of (G.refl _) |>.but _⟩
  case round =>
    obtain ⟨k, v, hk, rfl, HB, HO, HW⟩ := hrel
    obtain ⟨A1, c1, rfl, hc1, -⟩ := HO.out.row
    have hlen : (l.gs.take k).length = k := by simp; omega
    rw [hlen] at HB HO hc1
    have p2 : wr.cell? ⟨w.heap.size, 2, none⟩ = some (.slice A l.gs.length cA) := grown_cell HW.out (r0.cell 2 rfl) (by simp; omega)
    by_cases hlt : k < l.gs.length
    · obtain ⟨b, off, rfl, d0, d1, d2⟩ := HG.out.at hlt
      have gw := HV0.out wr HW.out
      have e0 := gw.cell d0
      have e1 := gw.cell d1
      have e2 := gw.cell d2
      have e3 := HB.out.cell 2 (v := .slice A1 k c1) rfl
      clear d0 d1 d2
      generalize hgk : l.gs[k] = g at *
      have HK := Lib.hid hgk
      clear hgk
      go_wp2_with fail
      refine wp_region_A (by as_aux_lemma => kernel_rfl) ?_
      obtain ⟨z, hz⟩ : ∃ z : World, z = { wr with drawn := wr.drawn + 1 } := ⟨_, rfl⟩
      rw [← hz]
      have gz : G wr z := by rw [hz]; exact (G.refl _).drew
      clear hz
      have HS : z.cell? ⟨n3, 2, none⟩ = some (.slice A1 k c1) ∧ z.cell? ⟨w.heap.size, 2, none⟩ = some (.slice (some ⟨b, off, none⟩) l.gs.length cA) ∧ z.cell? ⟨b, off + k * 3, none⟩ = some (.int .i64 g.a) ∧ z.cell? ⟨b, off + k * 3 + 1, none⟩ = some (.int .i64 g.lo) ∧ z.cell? ⟨b, off + k * 3 + 2, none⟩ = some (.int .i64 g.hi) := ⟨gz.cell e3, gz.cell p2, gz.cell e0, gz.cell e1, gz.cell e2⟩
      clear e0 e1 e2 e3 p2
      refine wpAny_fork (fun w' => w'.cell? ⟨n3, 2, none⟩ = some (.slice A1 k c1) ∧ w'.cell? ⟨w.heap.size, 2, none⟩ = some (.slice (some ⟨b, off, none⟩) l.gs.length cA) ∧ w'.cell? ⟨b, off + k * 3, none⟩ = some (.int .i64 g.a) ∧ w'.cell? ⟨b, off + k * 3 + 1, none⟩ = some (.int .i64 g.lo) ∧ w'.cell? ⟨b, off + k * 3 + 2, none⟩ = some (.int .i64 g.hi)) 17 ?_
      refine wpAnyU_take (i := 0) (v := .pointer (some ⟨n3, 2, none⟩)) rfl (by as_aux_lemma => kernel_rfl) (fun _ _ _ h => h) HS (Or.inl ⟨by rfl, ?_⟩) ?_
      · rintro w ⟨s0, s1, s2, s3, s4⟩
        go_simp
      simp only [Act.put, List.setIfInBounds_toArray, List.set_cons_succ, List.set_cons_zero]
      refine wpAnyU_take (i := 1) (v := .slice A1 k c1) rfl (by as_aux_lemma => kernel_rfl) (fun _ _ _ h => h) HS (Or.inl ⟨by rfl, ?_⟩) ?_
      · rintro w ⟨s0, s1, s2, s3, s4⟩
        go_simp
      simp only [Act.put, List.setIfInBounds_toArray, List.set_cons_succ, List.set_cons_zero]
      refine wpAnyU_take (i := 2) (v := .pointer (some ⟨w.heap.size, 2, none⟩)) rfl (by as_aux_lemma => kernel_rfl) (fun _ _ _ h => h) HS (Or.inl ⟨by rfl, ?_⟩) ?_
      · rintro w ⟨s0, s1, s2, s3, s4⟩
        go_simp
      simp only [Act.put, List.setIfInBounds_toArray, List.set_cons_succ, List.set_cons_zero]
      refine wpAnyU_take (i := 3) (v := .slice (some ⟨b, off, none⟩) l.gs.length cA) rfl (by as_aux_lemma => kernel_rfl) (fun _ _ _ h => h) HS (Or.inl ⟨by rfl, ?_⟩) ?_
      · rintro w ⟨s0, s1, s2, s3, s4⟩
        go_simp
      simp only [Act.put, List.setIfInBounds_toArray, List.set_cons_succ, List.set_cons_zero]
      refine wpAnyU_take (i := 4) (v := .int .i64 k) rfl (by as_aux_lemma => kernel_rfl) (fun _ _ _ h => h) HS (Or.inl ⟨by rfl, ?_⟩) ?_
      · rintro w ⟨s0, s1, s2, s3, s4⟩
        go_simp
      simp only [Act.put, List.setIfInBounds_toArray, List.set_cons_succ, List.set_cons_zero]
      refine wpAnyU_take (i := 5) (v := .pointer (some ⟨b, off + k * 3, none⟩)) rfl (by as_aux_lemma => kernel_rfl) (fun _ _ _ h => h) HS (Or.inl ⟨by rfl, ?_⟩) ?_
      · rintro w ⟨s0, s1, s2, s3, s4⟩
        go_simp
      simp only [Act.put, List.setIfInBounds_toArray, List.set_cons_succ, List.set_cons_zero]
      refine wpAnyU_take (i := 6) (v := .pointer (some ⟨b, off + k * 3, none⟩)) rfl (by as_aux_lemma => kernel_rfl) (fun _ _ _ h => h) HS (Or.inl ⟨by rfl, ?_⟩) ?_
      · rintro w ⟨s0, s1, s2, s3, s4⟩
        go_simp
      simp only [Act.put, List.setIfInBounds_toArray, List.set_cons_succ, List.set_cons_zero]
      refine wpAnyU_take (i := 7) (v := .int .i64 g.a) rfl (by as_aux_lemma => kernel_rfl) (fun _ _ _ h => h) HS (Or.inl ⟨by rfl, ?_⟩) ?_
      · rintro w ⟨s0, s1, s2, s3, s4⟩
        go_simp
      simp only [Act.put, List.setIfInBounds_toArray, List.set_cons_succ, List.set_cons_zero]
      refine wpAnyU_take (i := 8) (v := .pointer (some ⟨w.heap.size, 2, none⟩)) rfl (by as_aux_lemma => kernel_rfl) (fun _ _ _ h => h) HS (Or.inl ⟨by rfl, ?_⟩) ?_
      · rintro w ⟨s0, s1, s2, s3, s4⟩
        go_simp
      simp only [Act.put, List.setIfInBounds_toArray, List.set_cons_succ, List.set_cons_zero]
      refine wpAnyU_take (i := 9) (v := .slice (some ⟨b, off, none⟩) l.gs.length cA) rfl (by as_aux_lemma => kernel_rfl) (fun _ _ _ h => h) HS (Or.inl ⟨by rfl, ?_⟩) ?_
      · rintro w ⟨s0, s1, s2, s3, s4⟩
        go_simp
      simp only [Act.put, List.setIfInBounds_toArray, List.set_cons_succ, List.set_cons_zero]
      refine wpAnyU_take (i := 10) (v := .int .i64 k) rfl (by as_aux_lemma => kernel_rfl) (fun _ _ _ h => h) HS (Or.inl ⟨by rfl, ?_⟩) ?_
      · rintro w ⟨s0, s1, s2, s3, s4⟩
        go_simp
      simp only [Act.put, List.setIfInBounds_toArray, List.set_cons_succ, List.set_cons_zero]
      refine wpAnyU_take (i := 11) (v := .pointer (some ⟨b, off + k * 3, none⟩)) rfl (by as_aux_lemma => kernel_rfl) (fun _ _ _ h => h) HS (Or.inl ⟨by rfl, ?_⟩) ?_
      · rintro w ⟨s0, s1, s2, s3, s4⟩
        go_simp
      simp only [Act.put, List.setIfInBounds_toArray, List.set_cons_succ, List.set_cons_zero]
      refine wpAnyU_take (i := 12) (v := .pointer (some ⟨b, off + k * 3 + 1, none⟩)) rfl (by as_aux_lemma => kernel_rfl) (fun _ _ _ h => h) HS (Or.inl ⟨by rfl, ?_⟩) ?_
      · rintro w ⟨s0, s1, s2, s3, s4⟩
        go_simp
      simp only [Act.put, List.setIfInBounds_toArray, List.set_cons_succ, List.set_cons_zero]
      refine wpAnyU_take (i := 13) (v := .agg #[.int .i64 g.lo, .int .i64 g.hi]) rfl (by as_aux_lemma => kernel_rfl) (fun _ _ _ h => h) HS (Or.inl ⟨by rfl, ?_⟩) ?_
      · rintro w ⟨s0, s1, s2, s3, s4⟩
        go_simp
      simp only [Act.put, List.setIfInBounds_toArray, List.set_cons_succ, List.set_cons_zero]
      refine wpAnyT_one (i := 14) (by as_aux_lemma => kernel_rfl) rfl ?_
      go_wp2_with fail
      refine (to_c _ _ _).mono ?_
      rintro e w2 ⟨rfl, hb2⟩
      go_wp2_with fail
      have G2 : G wr w2 := gz.trans hb2
      refine ⟨⟨hb2.cell HS.1, hb2.cell HS.2.1, hb2.cell HS.2.2.1, hb2.cell HS.2.2.2.1, hb2.cell HS.2.2.2.2⟩, ?_⟩
      refine wpAnyT_one (i := 15) (by as_aux_lemma => kernel_rfl) rfl ?_
      go_wp2_with fail
      refine ⟨⟨hb2.cell HS.1, hb2.cell HS.2.1, hb2.cell HS.2.2.1, hb2.cell HS.2.2.2.1, hb2.cell HS.2.2.2.2⟩, ?_⟩
      refine wpAnyT_one (i := 16) (by as_aux_lemma => kernel_rfl) rfl ?_
      go_wp2_with fail
      have hb3 := hb2.alloc (.cells #[.int .i64 g.a, .int .i64 g.lo, .int .i64 g.hi] 114)
      refine ⟨⟨hb3.cell HS.1, hb3.cell HS.2.1, hb3.cell HS.2.2.1, hb3.cell HS.2.2.2.1, hb3.cell HS.2.2.2.2⟩, ?_⟩
      refine wpAnyT_close (by as_aux_lemma => kernel_rfl) ?_
      refine wpAny_part (k := 17) (n := 3) (f := 0) rfl rfl (by as_aux_lemma => kernel_rfl) ?_
      simp only [List.drop_succ_cons, List.drop_zero, List.take_succ_cons, List.take_zero]
      have G3 : G wr (w2.alloc (.cells #[.int .i64 g.a, .int .i64 g.lo, .int .i64 g.hi] 114)) := gz.trans hb3
      have hsz := HW.out.size
      have hsz2 := G3.size
      have HO3 := Lib.hid (own_grow HO.out G3)
      have HB3 := Lib.hid (HB.out.grow G3)
      refine app_3 35 114 Try.underlying35 info114 (n3 + 1) rfl _ _ rfl _ (l.gs.take k) g rfl w2.heap.size rfl (newCell _ _ _ _ rfl) (newCell _ _ _ _ rfl) (newCell _ _ _ _ rfl) HO3.out (by omega) (by simp; omega) ?_
      intro v4 w4 o1 o2 o3
      have G4 : wr.grownBy w4 (Value.ownBlock (.slice A1 k c1)) := grownBy_trans ((grownBy_of G3).but _) o2
      have W4 := Lib.hid (grownBy_far HW.out G4 (fun g hg => by have := own_base HO.out g hg; omega))
      have B4 := Blk.grown HB3.out o2 (fun e => by have := own_base HO3.out n3 e.symm; omega)
      obtain ⟨A4, c4, rfl, -, -⟩ := o1.row
      rw [show (l.gs.take k ++ [g]).length = k + 1 by simp; omega] at o1
      have O4 := Lib.hid o1
      have u4 := B4.cell 2 (v := .slice A1 k c1) rfl
      have z4 := B4.frozen 2
      clear o1 o2 o3 G4
      go_wp2_with fail
      refine wpAny_done (by as_aux_lemma => kernel_rfl) ?_
      go_wp2_with fail
      go_roundw
      case rel => exact ⟨k + 1, _, by omega, by go_num, B4.set 2 _, by
        rw [Hid, List.take_succ_eq_append_getElem hlt, HK.out]
        exact own_block O4.out (fun q hq => Below.heap_setCell _ _ _ _ (by have := own_base O4.out q hq; show q ≠ n3; omega)), grownBy_trans W4.out (grownBy_set _ _ _)⟩
      case measure => simp [intOf]; omega
    · obtain rfl : k = l.gs.length := by omega
      have HO1 : Hid (Own3 114 (n3 + 1) wr (.slice A1 l.gs.length c1) l.gs) := by have h := HO.out; rwa [List.take_length] at h
      clear HO
      go_wp2_with fail
      obtain ⟨wo, rfl⟩ : ∃ wo : World, wo = wr := ⟨_, rfl⟩
      have r0o := Blk.grown r0 HW.out (by simp; omega)
      have r1o := Blk.grown r1 HW.out (by simp; omega)
      have hn3o := HB.out.lt
      have hwo := HV0.out wo HW.out
      have HV2 := Lib.hid (fun (wr : World) (h : wo.grownBy wr (some n3)) => (hwo.grown h (fun k e => by cases e; exact hw3) : G w wr))
      clear r0 r1 p2 r3
      go_loopw [5] (fun v5 wr => ∃ (k : Nat) (v : Value), k ≤ l.cs.length ∧ v5 = .int .i64 k ∧ Hid (Blk wr n3 38 #[.int .i64 l.lo, .int .i64 l.hi, .slice A1 l.gs.length c1, v]) ∧ Hid (Own3 110 wo.heap.size wr v (l.cs.take k)) ∧ Hid (wo.grownBy wr (some n3))) (fun v5 _ => l.cs.length - (intOf v5).toNat)
      case atStart => exact ⟨0, .slice none 0 0, by omega, rfl, HB.out, Own3.nil _ _ _, grownBy_of (G.refl _) |>.but _⟩
      case round =>
        obtain ⟨k, v, hk, rfl, HB2, HO, HW2⟩ := hrel
        obtain ⟨A2, c2, rfl, hc2, -⟩ := HO.out.row
        have hlen : (l.cs.take k).length = k := by simp; omega
        rw [hlen] at HB2 HO hc2
        have p2 : wr.cell? ⟨w.heap.size, 3, none⟩ = some (.slice C l.cs.length cC) := grown_cell HW2.out (r0o.cell 3 rfl) (by simp; omega)
        by_cases hlt : k < l.cs.length
        · obtain ⟨b, off, rfl, d0, d1, d2⟩ := HC.out.at hlt
          have gw := HV2.out wr HW2.out
          have e0 := gw.cell d0
          have e1 := gw.cell d1
          have e2 := gw.cell d2
          have e3 := HB2.out.cell 3 (v := .slice A2 k c2) rfl
          clear d0 d1 d2
          generalize hgk : l.cs[k] = g at *
          have HK := Lib.hid hgk
          clear hgk
          go_wp2_with fail
          refine wp_region_A (by as_aux_lemma => kernel_rfl) ?_
          obtain ⟨z, hz⟩ : ∃ z : World, z = { wr with drawn := wr.drawn + 1 } := ⟨_, rfl⟩
          rw [← hz]
          have gz : G wr z := by rw [hz]; exact (G.refl _).drew
          clear hz
          have HS : z.cell? ⟨n3, 3, none⟩ = some (.slice A2 k c2) ∧ z.cell? ⟨w.heap.size, 3, none⟩ = some (.slice (some ⟨b, off, none⟩) l.cs.length cC) ∧ z.cell? ⟨b, off + k * 3, none⟩ = some (.int .i64 g.a) ∧ z.cell? ⟨b, off + k * 3 + 1, none⟩ = some (.int .i64 g.lo) ∧ z.cell? ⟨b, off + k * 3 + 2, none⟩ = some (.int .i64 g.hi) := ⟨gz.cell e3, gz.cell p2, gz.cell e0, gz.cell e1, gz.cell e2⟩
          clear e0 e1 e2 e3 p2
          refine wpAny_fork (fun w' => w'.cell? ⟨n3, 3, none⟩ = some (.slice A2 k c2) ∧ w'.cell? ⟨w.heap.size, 3, none⟩ = some (.slice (some ⟨b, off, none⟩) l.cs.length cC) ∧ w'.cell? ⟨b, off + k * 3, none⟩ = some (.int .i64 g.a) ∧ w'.cell? ⟨b, off + k * 3 + 1, none⟩ = some (.int .i64 g.lo) ∧ w'.cell? ⟨b, off + k * 3 + 2, none⟩ = some (.int .i64 g.hi)) 17 ?_
          refine wpAnyU_take (i := 0) (v := .pointer (some ⟨n3, 3, none⟩)) rfl (by as_aux_lemma => kernel_rfl) (fun _ _ _ h => h) HS (Or.inl ⟨by rfl, ?_⟩) ?_
          · rintro w ⟨s0, s1, s2, s3, s4⟩
            go_simp
          simp only [Act.put, List.setIfInBounds_toArray, List.set_cons_succ, List.set_cons_zero]
          refine wpAnyU_take (i := 1) (v := .slice A2 k c2) rfl (by as_aux_lemma => kernel_rfl) (fun _ _ _ h => h) HS (Or.inl ⟨by rfl, ?_⟩) ?_
          · rintro w ⟨s0, s1, s2, s3, s4⟩
            go_simp
          simp only [Act.put, List.setIfInBounds_toArray, List.set_cons_succ, List.set_cons_zero]
          refine wpAnyU_take (i := 2) (v := .pointer (some ⟨w.heap.size, 3, none⟩)) rfl (by as_aux_lemma => kernel_rfl) (fun _ _ _ h => h) HS (Or.inl ⟨by rfl, ?_⟩) ?_
          · rintro w ⟨s0, s1, s2, s3, s4⟩
            go_simp
          simp only [Act.put, List.setIfInBounds_toArray, List.set_cons_succ, List.set_cons_zero]
          refine wpAnyU_take (i := 3) (v := .slice (some ⟨b, off, none⟩) l.cs.length cC) rfl (by as_aux_lemma => kernel_rfl) (fun _ _ _ h => h) HS (Or.inl ⟨by rfl, ?_⟩) ?_
          · rintro w ⟨s0, s1, s2, s3, s4⟩
            go_simp
          simp only [Act.put, List.setIfInBounds_toArray, List.set_cons_succ, List.set_cons_zero]
          refine wpAnyU_take (i := 4) (v := .int .i64 k) rfl (by as_aux_lemma => kernel_rfl) (fun _ _ _ h => h) HS (Or.inl ⟨by rfl, ?_⟩) ?_
          · rintro w ⟨s0, s1, s2, s3, s4⟩
            go_simp
          simp only [Act.put, List.setIfInBounds_toArray, List.set_cons_succ, List.set_cons_zero]
          refine wpAnyU_take (i := 5) (v := .pointer (some ⟨b, off + k * 3, none⟩)) rfl (by as_aux_lemma => kernel_rfl) (fun _ _ _ h => h) HS (Or.inl ⟨by rfl, ?_⟩) ?_
          · rintro w ⟨s0, s1, s2, s3, s4⟩
            go_simp
          simp only [Act.put, List.setIfInBounds_toArray, List.set_cons_succ, List.set_cons_zero]
          refine wpAnyU_take (i := 6) (v := .pointer (some ⟨b, off + k * 3, none⟩)) rfl (by as_aux_lemma => kernel_rfl) (fun _ _ _ h => h) HS (Or.inl ⟨by rfl, ?_⟩) ?_
          · rintro w ⟨s0, s1, s2, s3, s4⟩
            go_simp
          simp only [Act.put, List.setIfInBounds_toArray, List.set_cons_succ, List.set_cons_zero]
          refine wpAnyU_take (i := 7) (v := .int .i64 g.a) rfl (by as_aux_lemma => kernel_rfl) (fun _ _ _ h => h) HS (Or.inl ⟨by rfl, ?_⟩) ?_
          · rintro w ⟨s0, s1, s2, s3, s4⟩
            go_simp
          simp only [Act.put, List.setIfInBounds_toArray, List.set_cons_succ, List.set_cons_zero]
          refine wpAnyU_take (i := 8) (v := .pointer (some ⟨w.heap.size, 3, none⟩)) rfl (by as_aux_lemma => kernel_rfl) (fun _ _ _ h => h) HS (Or.inl ⟨by rfl, ?_⟩) ?_
          · rintro w ⟨s0, s1, s2, s3, s4⟩
            go_simp
          simp only [Act.put, List.setIfInBounds_toArray, List.set_cons_succ, List.set_cons_zero]
          refine wpAnyU_take (i := 9) (v := .slice (some ⟨b, off, none⟩) l.cs.length cC) rfl (by as_aux_lemma => kernel_rfl) (fun _ _ _ h => h) HS (Or.inl ⟨by rfl, ?_⟩) ?_
          · rintro w ⟨s0, s1, s2, s3, s4⟩
            go_simp
          simp only [Act.put, List.setIfInBounds_toArray, List.set_cons_succ, List.set_cons_zero]
          refine wpAnyU_take (i := 10) (v := .int .i64 k) rfl (by as_aux_lemma => kernel_rfl) (fun _ _ _ h => h) HS (Or.inl ⟨by rfl, ?_⟩) ?_
          · rintro w ⟨s0, s1, s2, s3, s4⟩
            go_simp
          simp only [Act.put, List.setIfInBounds_toArray, List.set_cons_succ, List.set_cons_zero]
          refine wpAnyU_take (i := 11) (v := .pointer (some ⟨b, off + k * 3, none⟩)) rfl (by as_aux_lemma => kernel_rfl) (fun _ _ _ h => h) HS (Or.inl ⟨by rfl, ?_⟩) ?_
          · rintro w ⟨s0, s1, s2, s3, s4⟩
            go_simp
          simp only [Act.put, List.setIfInBounds_toArray, List.set_cons_succ, List.set_cons_zero]
          refine wpAnyU_take (i := 12) (v := .pointer (some ⟨b, off + k * 3 + 1, none⟩)) rfl (by as_aux_lemma => kernel_rfl) (fun _ _ _ h => h) HS (Or.inl ⟨by rfl, ?_⟩) ?_
          · rintro w ⟨s0, s1, s2, s3, s4⟩
            go_simp
          simp only [Act.put, List.setIfInBounds_toArray, List.set_cons_succ, List.set_cons_zero]
          refine wpAnyU_take (i := 13) (v := .agg #[.int .i64 g.lo, .int .i64 g.hi]) rfl (by as_aux_lemma => kernel_rfl) (fun _ _ _ h => h) HS (Or.inl ⟨by rfl, ?_⟩) ?_
          · rintro w ⟨s0, s1, s2, s3, s4⟩
            go_simp
          simp only [Act.put, List.setIfInBounds_toArray, List.set_cons_succ, List.set_cons_zero]
          refine wpAnyT_one (i := 14) (by as_aux_lemma => kernel_rfl) rfl ?_
          go_wp2_with fail
          refine (to_c _ _ _).mono ?_
          rintro e w2 ⟨rfl, hb2⟩
          go_wp2_with fail
          have G2 : G wr w2 := gz.trans hb2
          refine ⟨⟨hb2.cell HS.1, hb2.cell HS.2.1, hb2.cell HS.2.2.1, hb2.cell HS.2.2.2.1, hb2.cell HS.2.2.2.2⟩, ?_⟩
          refine wpAnyT_one (i := 15) (by as_aux_lemma => kernel_rfl) rfl ?_
          go_wp2_with fail
          refine ⟨⟨hb2.cell HS.1, hb2.cell HS.2.1, hb2.cell HS.2.2.1, hb2.cell HS.2.2.2.1, hb2.cell HS.2.2.2.2⟩, ?_⟩
          refine wpAnyT_one (i := 16) (by as_aux_lemma => kernel_rfl) rfl ?_
          go_wp2_with fail
          have hb3 := hb2.alloc (.cells #[.int .i64 g.a, .int .i64 g.lo, .int .i64 g.hi] 110)
          refine ⟨⟨hb3.cell HS.1, hb3.cell HS.2.1, hb3.cell HS.2.2.1, hb3.cell HS.2.2.2.1, hb3.cell HS.2.2.2.2⟩, ?_⟩
          refine wpAnyT_close (by as_aux_lemma => kernel_rfl) ?_
          refine wpAny_part (k := 17) (n := 3) (f := 0) rfl rfl (by as_aux_lemma => kernel_rfl) ?_
          simp only [List.drop_succ_cons, List.drop_zero, List.take_succ_cons, List.take_zero]
          have G3 : G wr (w2.alloc (.cells #[.int .i64 g.a, .int .i64 g.lo, .int .i64 g.hi] 110)) := gz.trans hb3
          have hsz := HW2.out.size
          have hsz2 := G3.size
          have HO3 := Lib.hid (own_grow HO.out G3)
          have HB3 := Lib.hid (HB2.out.grow G3)
          refine app_3 36 110 Try.underlying36 info110 wo.heap.size rfl _ _ rfl _ (l.cs.take k) g rfl w2.heap.size rfl (newCell _ _ _ _ rfl) (newCell _ _ _ _ rfl) (newCell _ _ _ _ rfl) HO3.out (by omega) (by simp; omega) ?_
          intro v4 w4 o1 o2 o3
          have G4 : wr.grownBy w4 (Value.ownBlock (.slice A2 k c2)) := grownBy_trans ((grownBy_of G3).but _) o2
          have W4 := Lib.hid (grownBy_far HW2.out G4 (fun g hg => by have := own_base HO.out g hg; exact this))
          have B4 := Blk.grown HB3.out o2 (fun e => by have := own_base HO3.out n3 e.symm; omega)
          obtain ⟨A4, c4, rfl, -, -⟩ := o1.row
          rw [show (l.cs.take k ++ [g]).length = k + 1 by simp; omega] at o1
          have O4 := Lib.hid o1
          have u4 := B4.cell 3 (v := .slice A2 k c2) rfl
          have z4 := B4.frozen 3
          clear o1 o2 o3 G4
          go_wp2_with fail
          refine wpAny_done (by as_aux_lemma => kernel_rfl) ?_
          go_wp2_with fail
          go_roundw
          case rel => exact ⟨k + 1, _, by omega, by go_num, B4.set 3 _, by
            rw [Hid, List.take_succ_eq_append_getElem hlt, HK.out]
            exact own_block O4.out (fun q hq => Below.heap_setCell _ _ _ _ (by have := own_base O4.out q hq; show q ≠ n3; omega)), grownBy_trans W4.out (grownBy_set _ _ _)⟩
          case measure => simp [intOf]; omega
        · obtain rfl : k = l.cs.length := by omega
          have HO2 : Hid (Own3 110 wo.heap.size wr (.slice A2 l.cs.length c2) l.cs) := by have h := HO.out; rwa [List.take_length] at h
          clear HO
          have u0 := HB2.out.cell 0 (v := .int .i64 l.lo) rfl
          have u1 := HB2.out.cell 1 (v := .int .i64 l.hi) rfl
          have u2 := HB2.out.cell 2 (v := .slice A1 l.gs.length c1) rfl
          have u3 := HB2.out.cell 3 (v := .slice A2 l.cs.length c2) rfl
          have q1 := Blk.grown r1o HW2.out (by simp; omega)
          have t0 := q1.cell 0 (v := .int .i64 0) rfl
          have t1 := q1.cell 1 (v := .int .i64 0) rfl
          have t2 := q1.cell 2 (v := .slice none 0 0) rfl
          have t3 := q1.cell 3 (v := .slice none 0 0) rfl
          have z0 := q1.frozen 0
          have z1 := q1.frozen 1
          have z2 := q1.frozen 2
          have z3 := q1.frozen 3
          have gW := HV2.out wr HW2.out
          obtain ⟨A5, c5, e5, hc5, R1⟩ := Own3.row HO1.out
          cases e5
          have HR1 := Lib.hid (R1.grown HW2.out (fun b off e => by subst e; have := own_base HO1.out b rfl; intro e; cases e; omega))
          obtain ⟨A6, c6, e6, hc6, R2⟩ := Own3.row HO2.out
          cases e6
          have HR2 := Lib.hid R2
          have hb1 : ∀ b off, A1 = some ⟨b, off, none⟩ → n3 < b := fun b off e => by subst e; exact own_base HO1.out b rfl
          have hb2 : ∀ b off, A2 = some ⟨b, off, none⟩ → wo.heap.size ≤ b := fun b off e => by subst e; exact own_base HO2.out b rfl
          have HB1 := Lib.hid hb1
          have HB3 := Lib.hid hb2
          clear R1 R2 hb1 hb2
          go_wp2_with fail
          have q2 := (((q1.set 0 (.int .i64 l.lo)).set 1 (.int .i64 l.hi)).set 2 (.slice A1 l.gs.length c1)).set 3 (.slice A2 l.cs.length c2)
          have x0 := q2.cell 0 (v := .int .i64 l.lo) rfl
          have x1 := q2.cell 1 (v := .int .i64 l.hi) rfl
          have x2 := q2.cell 2 (v := .slice A1 l.gs.length c1) rfl
          have x3 := q2.cell 3 (v := .slice A2 l.cs.length c2) rfl
          have gS : wr.grownBy ((((wr.setCell ⟨w.heap.size + 1, 0, none⟩ (.int .i64 l.lo)).setCell ⟨w.heap.size + 1, 1, none⟩ (.int .i64 l.hi)).setCell ⟨w.heap.size + 1, 2, none⟩ (.slice A1 l.gs.length c1)).setCell ⟨w.heap.size + 1, 3, none⟩ (.slice A2 l.cs.length c2)) (some (w.heap.size + 1)) :=
            grownBy_trans (grownBy_trans (grownBy_trans (grownBy_set _ _ _) (grownBy_set _ _ _)) (grownBy_set _ _ _)) (grownBy_set _ _ _)
          refine bodyPost_ret (v := ledV l A1 A2 c1 c2) (by simp [results, Try.results24, go_sem, x0, x1, x2, x3]) rfl ⟨⟨A1, A2, c1, c2, rfl, ⟨HR1.out.grown gS (fun b off e => by have := HB1.out b off e; intro e; cases e; omega), HR2.out.grown gS (fun b off e => by have := HB3.out b off e; intro e; cases e; omega)⟩, hc5, hc6⟩, (((gW.setCell (by simp) _).setCell (by simp) _).setCell (by simp) _).setCell (by simp) _⟩
end Go.Proofs.Ytogdhkecpjndlaa.C
