/- Appending a whole row of three-cell elements, nil or not. -/
import Derived.Test.YtogdhkecpjndlaaGF
set_option linter.unusedSimpArgs false
set_option linter.unusedVariables false
namespace Go.Proofs.Ytogdhkecpjndlaa.C
open Go.RowKit

theorem run_append_none {P : Program} {w : World} (t ty e : TypeId) (i : TypeInfo) (ht : P.underlying t = some (.slice e)) (hi : P.info? e = some i) (A : Option Addr) (n cap c : Nat) (hn : n ≤ cap) :
    (Builtin.append_ #[t, t] ty #[.slice A n cap, .slice none 0 c]).run P w = .ok (.slice A n cap) w := by
  cases A <;> simp [Builtin.append_, run_underlying ht, sizeOf, typeInfo, hi, Builtin.lenOf, Builtin.firstCells, hn, storeCells]
section
variable {ops : Array Oper} {rest : List Oper} {o : Oper} {a : Act} {Q : Exit → Act → World → Prop} {W : World}
theorem cells3_len : ∀ xs : List T3, (cells3 xs).length = xs.length * 3
  | [] => rfl
  | x :: xs => by simp only [cells3, List.length_cons, cells3_len xs]; omega
theorem cells3_one : ∀ (xs : List T3), ∀ u ∈ cells3 xs, u.oneCell' = true
  | [], u, h => by cases h
  | x :: xs, u, h => by
    simp only [cells3, List.mem_cons] at h
    rcases h with rfl | rfl | rfl | h
    · rfl
    · rfl
    · rfl
    · exact cells3_one xs u h
theorem cells3_get {w : World} {b : Nat} : ∀ (xs : List T3) (off : Nat), Row3 w (some ⟨b, off, none⟩) xs → ∀ j u, (cells3 xs)[j]? = some u → w.cell? ⟨b, off + j, none⟩ = some u
  | [], _, _, j, u, h => by simp [cells3] at h
  | x :: xs, off, hR, j, u, h => by
    obtain ⟨b0, off0, e, h0, h1, h2⟩ := hR 0 x rfl
    cases e
    have ih := cells3_get xs (off + 3) (fun k g hk => by
      obtain ⟨b1, off1, e, k0, k1, k2⟩ := hR (k + 1) g (by simpa using hk)
      cases e
      exact ⟨b, off + 3, rfl, by rw [show off + 3 + k * 3 = off + (k + 1) * 3 by omega]; exact k0, by rw [show off + 3 + k * 3 = off + (k + 1) * 3 by omega]; exact k1, by rw [show off + 3 + k * 3 = off + (k + 1) * 3 by omega]; exact k2⟩)
    match j, h with
    | 0, h => simp [cells3] at h; subst h; simpa using h0
    | 1, h => simp [cells3] at h; subst h; simpa using h1
    | 2, h => simp [cells3] at h; subst h; simpa using h2
    | j + 3, h =>
      have := ih j u (by simpa [cells3] using h)
      rw [show off + (j + 3) = off + 3 + j by omega]
      exact this
theorem app_3w (t e : TypeId) (ht : Try.prog.underlying t = some (.slice e)) (hinfo : (Try.prog.info? e).map (fun i => (i.zero, i.size, i.bytes)) = some (some (.agg #[(.int .i64 0), (.int .i64 0), (.int .i64 0)]), 3, 24)) (base : Nat) (hgd : o.guard = none) (s x : Operand)
    (ho : o.op = .call { callee := .builtin .append, args := #[s, x], argTypes := #[t, t] }) (v : Value) (xs ys : List T3) (hs : a.eval s = v) (A : Option Addr) (n c : Nat)
    (hx : a.eval x = .slice A n c) (hnl : n = ys.length) (hR : Row3 W A ys) (HO : Own3 e base W v xs) (hbase : base ≤ W.heap.size) (hl : (xs.length + ys.length) * 24 ≤ 140737488355328)
    (h : ∀ v1 w1, Own3 e base w1 v1 (xs ++ ys) → W.grownBy w1 v.ownBlock → (v1.ownBlock = v.ownBlock ∨ v1.ownBlock = some W.heap.size) → wpList Try.prog ops Q rest (a.put o.dst v1) w1) :
    wpList Try.prog ops Q (o :: rest) a W := by
  subst hnl
  obtain ⟨i0, hi, hzz⟩ := Option.map_eq_some_iff.1 hinfo
  simp only [Prod.mk.injEq] at hzz
  obtain ⟨hz0, hz1, hz2⟩ := hzz
  cases A with
  | none =>
    have hy : ys = [] := by
      cases ys with
      | nil => rfl
      | cons y ys => obtain ⟨b, off, e, -⟩ := hR 0 y rfl; cases e
    subst hy
    obtain ⟨Av, cap, rfl, hc, -⟩ := HO.row
    refine wpList_plain hgd fun K hK => ?_
    have hr := run_append_none (P := Try.prog) (w := W) t o.type e i0 ht hi Av xs.length cap c hc
    unfold Oper.wp execOp
    simp only [List.length_nil] at hx
    simp only [ho, resolve, invoke, builtin, Sem.run_bind, Sem.run_pure, Result.andThen_ok, List.map_toArray, List.map_cons, List.map_nil, hs, hx, hr]
    exact hK _ _ (h _ W (by simpa using HO) ((grownBy_of (G.refl _)).but _) (.inl rfl))
  | some ad =>
    refine wpList_append_own_at W hgd s x t ho base e i0 _ 3 24 ht hi hz0 hz1 hz2 rfl (by omega) v xs.length (cells3 xs) hs HO ad ys.length c (cells3 ys) hx (cells3_len ys) (fun j u hj => ?_) (cells3_one ys) (by simp only [maxLen]; omega) (by omega) hbase
      (fun v1 w1 h2 h3 _ h4 => h v1 w1 (by simpa [Own3, cells3_append] using h2) h3 h4)
    cases ys with
    | nil => simp [cells3] at hj
    | cons y ys =>
      obtain ⟨b, off, e, -⟩ := hR 0 y rfl
      cases e
      have := cells3_get (y :: ys) off hR j u hj
      have ha : (⟨b, off, none⟩ : Addr).add j = ⟨b, off + j, none⟩ := by unfold Addr.add; split <;> simp_all
      rw [ha]
      exact this
theorem app_3r (t e : TypeId) (ht : Try.prog.underlying t = some (.slice e)) (hinfo : (Try.prog.info? e).map (fun i => (i.zero, i.size, i.bytes)) = some (some (.agg #[(.int .i64 0), (.int .i64 0), (.int .i64 0)]), 3, 24)) (base : Nat) (hgd : o.guard = none) (s x : Operand)
    (ho : o.op = .call { callee := .builtin .append, args := #[s, x], argTypes := #[t, t] }) (v : Value) (xs ys : List T3) (hs : a.eval s = v) (A : Option Addr) (n c : Nat)
    (hx : a.eval x = .slice A n c) (hnl : n = ys.length) (hR : Row3 W A ys) (HO : Own3 e base W v xs) (hbase : base ≤ W.heap.size) (hl : xs.length ≤ 100000000) (hl2 : ys.length ≤ 100000000)
    (h : ∀ v1 w1, Own3 e base w1 v1 (xs ++ ys) → W.grownBy w1 v.ownBlock → (v1.ownBlock = v.ownBlock ∨ v1.ownBlock = some W.heap.size) → wpList Try.prog ops Q rest (a.put o.dst v1) w1) :
    wpList Try.prog ops Q (o :: rest) a W :=
  app_3w t e ht hinfo base hgd s x ho v xs ys hs A n c hx hnl hR HO hbase (by omega) h
end
theorem Own3.empty (e : TypeId) (w : World) : Own3 e w.heap.size (w.alloc (.cells #[] e)) (.slice (some ⟨w.heap.size, 0, none⟩) 0 0) [] :=
  ⟨rfl, .inr ⟨w.heap.size, 0, #[], rfl, Nat.le_refl _, heap_alloc_new _ _, Nat.le_refl _, by simp [maxLen], rfl, rfl⟩⟩
theorem own_open {w : World} {base e size n c : Nat} {A : Option Addr} {cs : List Value} (h : w.ownsRow base e size (.slice A n c) n cs) (hn : n ≠ 0) :
    ∃ g, A = some ⟨g, 0, none⟩ ∧ base ≤ g ∧ g < w.heap.size ∧ (∀ j u, cs[j]? = some u → w.cell? ⟨g, j, none⟩ = some u) ∧ (∀ j, w.frozen? ⟨g, j, none⟩ = false) := by
  obtain ⟨h0, h1⟩ := h
  rcases h1 with ⟨h2, -⟩ | ⟨g, cap, cur, hv, hb, hg, hcap, hmax, hsz, htk⟩
  · cases h2
    exact absurd rfl hn
  · cases hv
    have hB : Blk w g e cur := hg
    refine ⟨g, rfl, hb, hB.lt, fun j u hj => hB.cell j ?_, fun j => hB.frozen j⟩
    rw [← htk, List.getElem?_take] at hj
    split at hj
    · simpa using hj
    · simp at hj
theorem own_set {w : World} {base e size n c g : Nat} {cs : List Value} (h : w.ownsRow base e size (.slice (some ⟨g, 0, none⟩) n c) n cs) (i : Nat) (x : Value) : (w.setCell ⟨g, i, none⟩ x).ownsRow base e size (.slice (some ⟨g, 0, none⟩) n c) n (cs.set i x) := by
  obtain ⟨h0, h1⟩ := h
  rcases h1 with ⟨h2, -⟩ | ⟨g', cap, cur, hv, hb, hg, hcap, hmax, hsz, htk⟩
  · cases h2
  · cases hv
    have hB : Blk w g e cur := hg
    refine ⟨by simpa using h0, .inr ⟨g, c, cur.setIfInBounds i x, rfl, hb, hB.set i _, hcap, hmax, by simpa using hsz, ?_⟩⟩
    rw [Array.toList_setIfInBounds, List.take_set, htk]
theorem cells3_setr : ∀ (xs : List T3) (i : Nat) (h : i < xs.length) (lo hi : Int), ((cells3 xs).set (i * 3 + 1) (.int .i64 lo)).set (i * 3 + 2) (.int .i64 hi) = cells3 (xs.set i ⟨xs[i].a, lo, hi⟩)
  | x :: xs, 0, _, lo, hi => by simp [cells3]
  | x :: xs, i + 1, h, lo, hi => by
    have ih := cells3_setr xs i (by simpa using h) lo hi
    rw [List.set_cons_succ, cells3, cells3, show (i + 1) * 3 + 1 = i * 3 + 1 + 3 by omega, show (i + 1) * 3 + 2 = i * 3 + 2 + 3 by omega]
    simpa using ih
theorem cells3_seta : ∀ (xs : List T3) (i : Nat) (h : i < xs.length) (a : Int), (cells3 xs).set (i * 3) (.int .i64 a) = cells3 (xs.set i ⟨a, xs[i].lo, xs[i].hi⟩)
  | x :: xs, 0, _, a => by simp [cells3]
  | x :: xs, i + 1, h, a => by
    have ih := cells3_seta xs i (by simpa using h) a
    rw [List.set_cons_succ, cells3, cells3, show (i + 1) * 3 = i * 3 + 3 by omega]
    simpa using ih
theorem Own3.open {w : World} {base e c n : Nat} {A : Option Addr} {xs : List T3} (h : Own3 e base w (.slice A n c) xs) (hn : xs ≠ []) :
    ∃ g, A = some ⟨g, 0, none⟩ ∧ base ≤ g ∧ g < w.heap.size ∧ (∀ j x, xs[j]? = some x → w.cell? ⟨g, j * 3, none⟩ = some (.int .i64 x.a) ∧ w.cell? ⟨g, j * 3 + 1, none⟩ = some (.int .i64 x.lo) ∧ w.cell? ⟨g, j * 3 + 2, none⟩ = some (.int .i64 x.hi)) ∧ (∀ j, w.frozen? ⟨g, j, none⟩ = false) := by
  have h' := h
  obtain ⟨A', c', e, -⟩ := h'.row
  cases e
  obtain ⟨g, e, hb, hl, hc, hf⟩ := own_open h (fun e => hn (List.eq_nil_of_length_eq_zero e))
  refine ⟨g, e, hb, hl, fun j x hj => ?_, hf⟩
  obtain ⟨k0, k1, k2⟩ := cells3_at xs j x hj
  exact ⟨hc _ _ k0, hc _ _ k1, hc _ _ k2⟩
theorem Own3.setr {w : World} {base e c g n : Nat} {xs : List T3} (h : Own3 e base w (.slice (some ⟨g, 0, none⟩) n c) xs) {i : Nat} (hi : i < xs.length) (lo hi' : Int) :
    Own3 e base ((w.setCell ⟨g, i * 3 + 1, none⟩ (.int .i64 lo)).setCell ⟨g, i * 3 + 2, none⟩ (.int .i64 hi')) (.slice (some ⟨g, 0, none⟩) n c) (xs.set i ⟨xs[i].a, lo, hi'⟩) := by
  have h' := h
  obtain ⟨A', c', e, -⟩ := h'.row
  cases e
  have := own_set (own_set h (i * 3 + 1) (.int .i64 lo)) (i * 3 + 2) (.int .i64 hi')
  rw [cells3_setr xs i hi] at this
  unfold Own3
  rw [List.length_set]
  exact this
theorem Own3.seta {w : World} {base e c g n : Nat} {xs : List T3} (h : Own3 e base w (.slice (some ⟨g, 0, none⟩) n c) xs) {i : Nat} (hi : i < xs.length) (a : Int) :
    Own3 e base (w.setCell ⟨g, i * 3, none⟩ (.int .i64 a)) (.slice (some ⟨g, 0, none⟩) n c) (xs.set i ⟨a, xs[i].lo, xs[i].hi⟩) := by
  have h' := h
  obtain ⟨A', c', e, -⟩ := h'.row
  cases e
  have := own_set h (i * 3) (.int .i64 a)
  rw [cells3_seta xs i hi] at this
  unfold Own3
  rw [List.length_set]
  exact this
theorem und24 : Try.prog.underlying 24 = some (.slice 86) := by kernel_rfl
theorem und25 : Try.prog.underlying 25 = some (.slice 97) := by kernel_rfl
theorem info86 : (Try.prog.info? 86).map (fun i => (i.zero, i.size, i.bytes)) = some (some (.agg #[(.int .i64 0), (.int .i64 0), (.int .i64 0)]), 3, 24) := by kernel_rfl
theorem info97' : (Try.prog.info? 97).map (fun i => (i.zero, i.size, i.bytes)) = some (some (.agg #[(.int .i64 0), (.int .i64 0), (.int .i64 0)]), 3, 24) := by kernel_rfl
end Go.Proofs.Ytogdhkecpjndlaa.C
