/- Texts joined: C16 C17 C18 C19 C20. -/
import Derived.Test.YtogdhkecpjndlaaGC
import Derived.Test.YtogdhkecpjndlaaGB
import Derived.RangeFuncBound
set_option linter.unusedSimpArgs false
set_option linter.unusedVariables false
/- Questions about a truth; their bounds in all truths. -/
namespace Go.Proofs.Ytogdhkecpjndlaa.C
open Go.RowKit
set_option maxRecDepth 100000

/-- A ledger at work, read. -/
def AskV (l : Led) (A C : Option Addr) (cA cC : Nat) (B : Nat) (W : World) : Prop :=
  ∃ At ct mv, Blk W B 121 #[.int .i64 l.lo, .int .i64 l.hi, .slice A l.gs.length cA, .slice C l.cs.length cC, .slice At (truthsL l).length ct, mv] ∧ RowT W At (truthsL l) ∧ (truthsL l).length ≤ ct
theorem AskV.grow {l : Led} {A C : Option Addr} {cA cC B : Nat} {W W' : World} (h : AskV l A C cA cC B W) (hg : G W W') : AskV l A C cA cC B W' := by
  obtain ⟨At, ct, mv, h1, h2, h3⟩ := h
  exact ⟨At, ct, mv, h1.grow hg, h2.grow hg, h3⟩
theorem Asked.view {l : Led} {A C : Option Addr} {cA cC base B : Nat} {W : World} (h : Asked l A C cA cC base B W) : AskV l A C cA cC B W := by
  obtain ⟨tv, mb, n, h1, h2, -⟩ := h.blk
  obtain ⟨At, ct, rfl, hc, hr⟩ := OwnT.row h2
  exact ⟨At, ct, _, h1, hr, hc⟩
theorem truth_mem {l : Led} {c : Cn} (h : c ∈ truthsL l) : c ∈ countsL l := (List.mem_filter.1 h).1
theorem truth_ok {l : Led} {c : Cn} (hV : Valid l) (h : c ∈ truthsL l) : CntOk l c := cntOk_of hV ((countsL_mem l c).1 (truth_mem h))

set_option maxHeartbeats 2000000 in
theorem due_c {l : Led} {A C : Option Addr} {cA cC B : Nat} {W : World} (hV : Valid l) (hG : Row3 W A l.gs) (hA : AskV l A C cA cC B W) {c : Cn} (hK : CntOk l c) {g : Nat} (hg : g < l.gs.length) :
    Calls Try.prog 91 #[ptr B, cntV c, .int .i64 g] W fun e w' => e = .returned (.int .i64 (owed l c g)) ∧ G W w' := by
  obtain ⟨At, ct, mv, hb, -, -⟩ := hA
  have hc := fun W1 (h : G W W1) => owedV_c (A := A) (C := C) (cA := cA) (cC := cC) hV hK (hG.grow h) hg
  have HC := Lib.hid hc
  clear hc
  go_enter Try.func91, Try.ntmps91
  go_wp2_with fail
  generalize hW : W.alloc _ = W1
  obtain ⟨hB, k1⟩ := boxes1 hW
  have f0 := k1 0 _ rfl
  have f1 := k1 1 _ rfl
  have f2 := k1 2 _ rfl
  have f3 := k1 3 _ rfl
  have f4 := k1 4 _ rfl
  have hb1 := hb.grow hB
  have d0 := hb1.cell 0 (v := .int .i64 l.lo) rfl
  have d1 := hb1.cell 1 (v := .int .i64 l.hi) rfl
  have d2 := hb1.cell 2 (v := .slice A l.gs.length cA) rfl
  have d3 := hb1.cell 3 (v := .slice C l.cs.length cC) rfl
  clear hW k1
  go_still_tail 6, (by kernel_rfl)
  change wpList _ _ _ _ _ W1.drew
  go_wp2_with (go_at_call 112; refine (HC.out _ hB.drew).mono ?_; rintro e w2 ⟨rfl, hb2⟩)
  go_ret
  exact ⟨rfl, hB.drew.trans hb2⟩

set_option maxHeartbeats 2000000 in
theorem price_c (B : Nat) (c : Cn) (g : Int) (W : World) :
    Calls Try.prog 92 #[ptr B, cntV c, .int .i64 g] W fun e w' => e = .returned (.int .i64 c.r) ∧ G W w' := by
  go_enter Try.func92, Try.ntmps92
  go_wp2
  go_ret
  exact ⟨rfl, (G.refl _).alloc _⟩

set_option maxHeartbeats 2000000 in
theorem sum_c {l : Led} {A C : Option Addr} {cA cC B : Nat} {W : World} (hV : Valid l) (hG : Row3 W A l.gs) (hA : AskV l A C cA cC B W) {c : Cn} (hK : CntOk l c) (g : Int) :
    Calls Try.prog 86 #[ptr B, cntV c, .int .i64 g] W fun e w' => e = .returned (.int .i64 (totalFrom 0 (dues l c))) ∧ G W w' := by
  obtain ⟨At, ct, mv, hb, -, -⟩ := hA
  have hc := fun W1 (h : G W W1) => dues_c l A C cA cC c W1 hV hK (hG.grow h)
  have HC := Lib.hid hc
  have HBD := Lib.hid (dues_bd hV hK)
  clear hc
  go_enter Try.func86, Try.ntmps86
  go_wp2_with fail
  generalize hW : W.alloc _ = W1
  obtain ⟨hB, k1⟩ := boxes1 hW
  have f0 := k1 0 _ rfl
  have f1 := k1 1 _ rfl
  have f2 := k1 2 _ rfl
  have f3 := k1 3 _ rfl
  have f4 := k1 4 _ rfl
  have hb1 := hb.grow hB
  have d0 := hb1.cell 0 (v := .int .i64 l.lo) rfl
  have d1 := hb1.cell 1 (v := .int .i64 l.hi) rfl
  have d2 := hb1.cell 2 (v := .slice A l.gs.length cA) rfl
  have d3 := hb1.cell 3 (v := .slice C l.cs.length cC) rfl
  clear hW k1
  go_still_tail 5, (by kernel_rfl)
  change wpList _ _ _ _ _ W1.drew
  go_wp2_with (go_at_call 80; refine (HC.out _ hB.drew).mono ?_; rintro e w2 ⟨⟨v, rfl, hO⟩, hb2⟩; obtain ⟨A2, c2, rfl, hl2, hR2⟩ := hO.row)
  refine (total_c A2 (dues l c) c2 w2 hR2 (by rw [dues_len]; have := hV.ng; omega) HBD.out).mono ?_
  rintro e w3 ⟨rfl, rfl⟩
  go_wp2_with fail
  go_ret
  exact ⟨rfl, hB.drew.trans hb2⟩

def widen (r : Int × Int) (n : Int) : Int × Int := (if n < r.1 then n else r.1, if r.2 < n then n else r.2)
set_option maxHeartbeats 2000000 in
theorem wider_c (lo hi n : Int) (w : World) : Calls Try.prog 113 #[.agg #[.int .i64 lo, .int .i64 hi], .int .i64 n] w fun e w' => e = .returned (.agg #[.int .i64 (widen (lo, hi) n).1, .int .i64 (widen (lo, hi) n).2]) ∧ G w w' := by
  go_enter Try.func113, Try.ntmps113
  go_wp2_with fail
  generalize hW : (w.alloc _).alloc _ = W
  have hB : G w W := by rw [← hW]; exact ((G.refl _).alloc _).alloc _
  have hz : W.heap.size = w.heap.size + 2 := by rw [← hW]; simp
  have q0 : Blk W w.heap.size 34 #[.int .i64 lo, .int .i64 hi] := by rw [← hW]; exact (Blk.new _ _ _).grow ((G.refl _).alloc _)
  have q1 : Blk W (w.heap.size + 1) 34 #[.int .i64 0, .int .i64 0] := by rw [← hW]; exact Blk.new' (by simp)
  clear hW
  refine wp_region_T (fun w' => w'.cell? ⟨w.heap.size, 0, none⟩ = some (.int .i64 lo) ∧ w'.cell? ⟨w.heap.size, 1, none⟩ = some (.int .i64 hi)) 10 (by kernel_rfl) ?_
  obtain ⟨z, hz5⟩ : ∃ z : World, z = { W with drawn := W.drawn + 1 } := ⟨_, rfl⟩
  rw [← hz5]
  have gz : G W z := by rw [hz5]; exact (G.refl _).drew
  clear hz5
  have HS : (fun w' : World => w'.cell? ⟨w.heap.size, 0, none⟩ = some (.int .i64 lo) ∧ w'.cell? ⟨w.heap.size, 1, none⟩ = some (.int .i64 hi)) z := ⟨gz.cell (q0.cell 0 rfl), gz.cell (q0.cell 1 rfl)⟩
  refine wpAnyT_take (i := 0) (v := .pointer (some ⟨w.heap.size, 0, none⟩)) (by decide) rfl (by kernel_rfl) (by kernel_rfl) (by kernel_rfl) (by kernel_rfl) (fun _ _ _ h => h) HS (Or.inl ⟨by rfl, ?_⟩) ?_
  · rintro w ⟨s0, s1⟩
    go_simp
  simp only [Act.put, List.setIfInBounds_toArray, List.set_cons_succ, List.set_cons_zero]
  refine wpAnyT_take (i := 1) (v := .int .i64 lo) (by decide) rfl (by kernel_rfl) (by kernel_rfl) (by kernel_rfl) (by kernel_rfl) (fun _ _ _ h => h) HS (Or.inl ⟨by rfl, ?_⟩) ?_
  · rintro w ⟨s0, s1⟩
    go_simp
  simp only [Act.put, List.setIfInBounds_toArray, List.set_cons_succ, List.set_cons_zero]
  refine wpAnyT_take (i := 2) (v := .int .i64 n) (by decide) rfl (by kernel_rfl) (by kernel_rfl) (by kernel_rfl) (by kernel_rfl) (fun _ _ _ h => h) HS (Or.inl ⟨by rfl, ?_⟩) ?_
  · rintro w ⟨s0, s1⟩
    go_simp
  simp only [Act.put, List.setIfInBounds_toArray, List.set_cons_succ, List.set_cons_zero]
  refine wpAnyT_take (i := 5) (v := .pointer (some ⟨w.heap.size, 1, none⟩)) (by decide) rfl (by kernel_rfl) (by kernel_rfl) (by kernel_rfl) (by kernel_rfl) (fun _ _ _ h => h) HS (Or.inl ⟨by rfl, ?_⟩) ?_
  · rintro w ⟨s0, s1⟩
    go_simp
  simp only [Act.put, List.setIfInBounds_toArray, List.set_cons_succ, List.set_cons_zero]
  refine wpAnyT_take (i := 6) (v := .int .i64 hi) (by decide) rfl (by kernel_rfl) (by kernel_rfl) (by kernel_rfl) (by kernel_rfl) (fun _ _ _ h => h) HS (Or.inl ⟨by rfl, ?_⟩) ?_
  · rintro w ⟨s0, s1⟩
    go_simp
  simp only [Act.put, List.setIfInBounds_toArray, List.set_cons_succ, List.set_cons_zero]
  refine wpAnyT_take (i := 7) (v := .int .i64 n) (by decide) rfl (by kernel_rfl) (by kernel_rfl) (by kernel_rfl) (by kernel_rfl) (fun _ _ _ h => h) HS (Or.inl ⟨by rfl, ?_⟩) ?_
  · rintro w ⟨s0, s1⟩
    go_simp
  simp only [Act.put, List.setIfInBounds_toArray, List.set_cons_succ, List.set_cons_zero]
  obtain ⟨mx, hmx⟩ : ∃ mx, mx = if hi < n then n else hi := ⟨_, rfl⟩
  have HMX := Lib.hid hmx
  clear hmx
  refine wpAnyT_take (i := 8) (v := .int .i64 mx) (by decide) rfl (by kernel_rfl) (by kernel_rfl) (by kernel_rfl) (by kernel_rfl) (fun _ _ _ h => h) HS (Or.inl ⟨by rfl, ?_⟩) ?_
  · rintro w ⟨s0, s1⟩
    go_simp
    exact HMX.out.symm
  simp only [Act.put, List.setIfInBounds_toArray, List.set_cons_succ, List.set_cons_zero]
  refine wpAnyT_one (i := 3) (by kernel_rfl) rfl ?_
  go_wp2_with fail
  have g6 : G W (z.alloc (.cells #[.int .i64 lo, .int .i64 n] 3)) := gz.alloc _
  have hrow : RowI (z.alloc (.cells #[.int .i64 lo, .int .i64 n] 3)) (some ⟨z.heap.size, 0, none⟩) [lo, n] := fun j x hj => by
    match j, hj with
    | 0, hj => simp at hj; subst hj; exact ⟨_, _, rfl, newCell _ _ _ _ rfl⟩
    | 1, hj => simp at hj; subst hj; exact ⟨_, _, rfl, newCell _ _ _ _ rfl⟩
    | j + 2, hj => simp at hj
  generalize z.alloc _ = z6 at *
  refine ⟨⟨g6.cell (q0.cell 0 rfl), g6.cell (q0.cell 1 rfl)⟩, ?_⟩
  refine wpAnyT_one (i := 4) (by kernel_rfl) rfl ?_
  go_wp2_with fail
  refine (minimum_c _ lo [n] 2 z6 hrow (by simp)).mono ?_
  rintro e w4 ⟨rfl, rfl⟩
  go_wp2_with fail
  refine ⟨⟨g6.cell (q0.cell 0 rfl), g6.cell (q0.cell 1 rfl)⟩, ?_⟩
  refine wpAnyT_one (i := 9) (by kernel_rfl) rfl ?_
  go_wp2_with fail
  refine ⟨⟨g6.cell (q0.cell 0 rfl), g6.cell (q0.cell 1 rfl)⟩, ?_⟩
  refine wpAnyT_drop (k := 10) (by decide) rfl (by kernel_rfl) ?_
  simp only [List.drop_succ_cons, List.drop_zero]
  have q16 := q1.grow g6
  have d0 := q16.cell 0 (v := .int .i64 0) rfl
  have d1 := q16.cell 1 (v := .int .i64 0) rfl
  have df := q16.frozen 0
  have df1 := q16.frozen 1
  go_wp2_with fail
  have q17 := (q16.set 0 (.int .i64 (minL lo [n]))).set 1 (.int .i64 mx)
  have e0 := q17.cell 0 (v := .int .i64 (minL lo [n])) rfl
  have e1 := q17.cell 1 (v := .int .i64 mx) rfl
  refine bodyPost_ret (v := .agg #[.int .i64 (minL lo [n]), .int .i64 mx]) (by simp [results, Try.results113, go_sem, e0, e1]) rfl ⟨?_, (((hB.trans g6).setCell (by simp) _).setCell (by simp) _)⟩
  rw [HMX.out]
  rfl
end Go.Proofs.Ytogdhkecpjndlaa.C

/- The bounds of an answer in all truths. -/
namespace Go.Proofs.Ytogdhkecpjndlaa.C
open Go.RowKit
set_option maxRecDepth 100000

def boundsF (q : Cn → Int) (r : Int × Int) (ts : List Cn) : Int × Int := ts.foldl (fun r c => widen r (q c)) r
def boundsL (q : Cn → Int) : List Cn → Int × Int
  | [] => (0, 0)
  | c :: cs => boundsF q (q c, q c) (c :: cs)

theorem boundsL_eq (q : Cn → Int) : ∀ (ts : List Cn) (h : 0 < ts.length), boundsL q ts = boundsF q (q ts[0], q ts[0]) ts
  | c :: cs, _ => rfl

set_option maxHeartbeats 4000000 in
theorem bounds_c {l : Led} {A C : Option Addr} {cA cC B : Nat} {W : World} {fn : Nat} {q : Cn → Int} {g : Int} (hent : ∀ args w, (callFunc fn args).run Try.prog w = .ok (.enter fn args) w) (hA : AskV l A C cA cC B W) (hne : truthsL l ≠ []) (hlen : (truthsL l).length ≤ 400000)
    (hq : ∀ c ∈ truthsL l, ∀ W1, G W W1 → Calls Try.prog fn #[ptr B, cntV c, .int .i64 g] W1 fun e w' => e = .returned (.int .i64 (q c)) ∧ G W1 w') :
    Calls Try.prog 87 #[.agg #[.func (.func fn) #[] #[]], ptr B, .int .i64 g] W fun e w' => e = .returned (.agg #[.int .i64 (boundsL q (truthsL l)).1, .int .i64 (boundsL q (truthsL l)).2]) ∧ G W w' := by
  obtain ⟨At, ct, mv, hb, hT, -⟩ := hA
  have hp : 0 < (truthsL l).length := List.length_pos_iff.2 hne
  obtain ⟨bt, offt, rfl, t0, t1, t2, t3, t4⟩ := hT.at hp
  simp only [Nat.zero_mul, Nat.add_zero] at t0 t1 t2 t3 t4
  have HQ0 := Lib.hid (hq _ (List.getElem_mem hp))
  have HQ := Lib.hid hq
  have HT := Lib.hid hT
  have HBL := Lib.hid (boundsL_eq q (truthsL l) hp)
  have hp' : (0 : Int) < (truthsL l).length := by omega
  clear hq hT hne
  generalize hc0 : (truthsL l)[0] = c0 at *
  go_enter Try.func87, Try.ntmps87
  go_wp2_with fail
  generalize hW : (W.alloc _).alloc _ = W1
  have hB : G W W1 := by rw [← hW]; exact ((G.refl _).alloc _).alloc _
  have hz : W1.heap.size = W.heap.size + 2 := by rw [← hW]; simp
  have q0 : Blk W1 W.heap.size 139 #[.func (.func fn) #[] #[]] := by rw [← hW]; exact (Blk.new _ _ _).grow ((G.refl _).alloc _)
  have q1 : Blk W1 (W.heap.size + 1) 34 #[.int .i64 0, .int .i64 0] := by rw [← hW]; exact Blk.new' (by simp)
  clear hW
  have d0 := q0.cell 0 (v := .func (.func fn) #[] #[]) rfl
  have d4 : W1.cell? ⟨B, 4, none⟩ = some (.slice (some ⟨bt, offt, none⟩) (truthsL l).length ct) := (hb.grow hB).cell 4 rfl
  have s0 := hB.cell t0
  have s1 := hB.cell t1
  have s2 := hB.cell t2
  have s3 := hB.cell t3
  have s4 := hB.cell t4
  go_still_tail 10, (by kernel_rfl)
  change wpList _ _ _ _ _ W1.drew
  go_wp2_with fail
  refine (HQ0.out _ hB.drew).mono ?_
  rintro e w2 ⟨rfl, hb2⟩
  go_upto_region 3 with fail
  generalize hW : w2.alloc _ = W2
  have g2 : G w2 W2 := by rw [← hW]; exact (G.refl _).alloc _
  have p0 : Blk W2 w2.heap.size 34 #[.int .i64 (q c0), .int .i64 (q c0)] := by rw [← hW]; exact Blk.new _ _ _
  have hz2 : w2.heap.size < W2.heap.size := p0.lt
  clear hW
  have gW2 : G W W2 := (hB.drew.trans hb2).trans g2
  have g12 : G W1 W2 := ((G.refl _).drew.trans hb2).trans g2
  have d42 : W2.cell? ⟨B, 4, none⟩ = some (.slice (some ⟨bt, offt, none⟩) (truthsL l).length ct) := g12.cell d4
  have hz12 := hb2.size
  have hz12' : W1.heap.size ≤ w2.heap.size := hz12
  clear d4 s0 s1 s2 s3 s4 d0 hb t0 t1 t2 t3 t4 HQ0 hz12
  have Q0 := Lib.hid (q0.grow g12)
  have Q1 := Lib.hid (q1.grow g12)
  have P0 := Lib.hid p0
  clear q0 q1 p0
  go_wp2_with fail
  generalize hts : truthsL l = ts at *
  have HTS := Lib.hid hts
  clear hts
  go_loopw [30] (fun v30 wr => ∃ (k : Nat) (r : Int × Int), k ≤ ts.length ∧ v30 = .int .i64 k ∧ Hid (boundsF q r (ts.drop k) = boundsF q (q c0, q c0) ts) ∧ Hid (Blk wr w2.heap.size 34 #[.int .i64 r.1, .int .i64 r.2]) ∧ Hid (Blk wr W.heap.size 139 #[.func (.func fn) #[] #[]]) ∧ Hid (Blk wr (W.heap.size + 1) 34 #[.int .i64 0, .int .i64 0]) ∧ Below W1.heap.size W2 wr) (fun v30 _ => ts.length - (intOf v30).toNat)
  case atStart => exact ⟨0, (q c0, q c0), by omega, rfl, rfl, P0.out, Q0.out, Q1.out, Below.refl _ _⟩
  case round =>
    obtain ⟨k, r, hk, rfl, HF, HP, HQ1, HR1, hbw⟩ := hrel
    have gWr : G W wr := Below.trans gW2 (hbw.mono (by omega))
    by_cases hlt : k < ts.length
    · obtain ⟨bt', offt', e, t0, t1, t2, t3, t4⟩ := (HT.out.grow gWr).at hlt
      cases e
      have hkq := HQ.out ts[k] (List.getElem_mem hlt)
      have HD := Lib.hid (List.drop_eq_getElem_cons hlt)
      generalize ts[k] = ck at *
      go_wp2_with fail
      have g6 : G wr (wr.alloc (.cells #[.int .i64 ck.r, .int .i64 (ck.b 0), .int .i64 (ck.b 1), .int .i64 (ck.b 2), .int .i64 (ck.b 3)] 128)) := (G.refl _).alloc _
      have x0 : Blk (wr.alloc (.cells #[.int .i64 ck.r, .int .i64 (ck.b 0), .int .i64 (ck.b 1), .int .i64 (ck.b 2), .int .i64 (ck.b 3)] 128)) wr.heap.size 128 #[.int .i64 ck.r, .int .i64 (ck.b 0), .int .i64 (ck.b 1), .int .i64 (ck.b 2), .int .i64 (ck.b 3)] := Blk.new _ _ _
      generalize wr.alloc _ = w6 at *
      refine wp_region_T (fun w' : World => w'.cell? ⟨w2.heap.size, 0, none⟩ = some (.int .i64 r.1) ∧ w'.cell? ⟨w2.heap.size, 1, none⟩ = some (.int .i64 r.2) ∧ w'.cell? ⟨W.heap.size, 0, none⟩ = some (.func (.func fn) #[] #[]) ∧ w'.cell? ⟨wr.heap.size, 0, none⟩ = some (.int .i64 ck.r) ∧ w'.cell? ⟨wr.heap.size, 1, none⟩ = some (.int .i64 (ck.b 0)) ∧ w'.cell? ⟨wr.heap.size, 2, none⟩ = some (.int .i64 (ck.b 1)) ∧ w'.cell? ⟨wr.heap.size, 3, none⟩ = some (.int .i64 (ck.b 2)) ∧ w'.cell? ⟨wr.heap.size, 4, none⟩ = some (.int .i64 (ck.b 3))) 8 (by kernel_rfl) ?_
      obtain ⟨z, hz5⟩ : ∃ z : World, z = { w6 with drawn := w6.drawn + 1 } := ⟨_, rfl⟩
      rw [← hz5]
      have gz : G w6 z := by rw [hz5]; exact (G.refl _).drew
      clear hz5
      have gz6 := g6.trans gz
      have hsh : ∀ {v : World}, G z v → (fun w' : World => w'.cell? ⟨w2.heap.size, 0, none⟩ = some (.int .i64 r.1) ∧ w'.cell? ⟨w2.heap.size, 1, none⟩ = some (.int .i64 r.2) ∧ w'.cell? ⟨W.heap.size, 0, none⟩ = some (.func (.func fn) #[] #[]) ∧ w'.cell? ⟨wr.heap.size, 0, none⟩ = some (.int .i64 ck.r) ∧ w'.cell? ⟨wr.heap.size, 1, none⟩ = some (.int .i64 (ck.b 0)) ∧ w'.cell? ⟨wr.heap.size, 2, none⟩ = some (.int .i64 (ck.b 1)) ∧ w'.cell? ⟨wr.heap.size, 3, none⟩ = some (.int .i64 (ck.b 2)) ∧ w'.cell? ⟨wr.heap.size, 4, none⟩ = some (.int .i64 (ck.b 3))) v := fun {v} h => ⟨(gz6.trans h).cell (HP.out.cell 0 rfl), (gz6.trans h).cell (HP.out.cell 1 rfl), (gz6.trans h).cell (HQ1.out.cell 0 rfl), (gz.trans h).cell (x0.cell 0 rfl), (gz.trans h).cell (x0.cell 1 rfl), (gz.trans h).cell (x0.cell 2 rfl), (gz.trans h).cell (x0.cell 3 rfl), (gz.trans h).cell (x0.cell 4 rfl)⟩
      have HS := hsh (G.refl z)
      refine wpAnyT_take (i := 0) (v := .agg #[.int .i64 r.1, .int .i64 r.2]) (by decide) rfl (by kernel_rfl) (by kernel_rfl) (by kernel_rfl) (by kernel_rfl) (fun _ _ _ h => h) HS (Or.inl ⟨by rfl, ?_⟩) ?_
      · rintro w ⟨s0, s1, s2, s3, s4, s5, s6, s7⟩
        go_simp
      simp only [Act.put, List.setIfInBounds_toArray, List.set_cons_succ, List.set_cons_zero]
      refine wpAnyT_take (i := 1) (v := .pointer (some ⟨W.heap.size, 0, none⟩)) (by decide) rfl (by kernel_rfl) (by kernel_rfl) (by kernel_rfl) (by kernel_rfl) (fun _ _ _ h => h) HS (Or.inl ⟨by rfl, ?_⟩) ?_
      · rintro w ⟨s0, s1, s2, s3, s4, s5, s6, s7⟩
        go_simp
      simp only [Act.put, List.setIfInBounds_toArray, List.set_cons_succ, List.set_cons_zero]
      refine wpAnyT_take (i := 2) (v := .func (.func fn) #[] #[]) (by decide) rfl (by kernel_rfl) (by kernel_rfl) (by kernel_rfl) (by kernel_rfl) (fun _ _ _ h => h) HS (Or.inl ⟨by rfl, ?_⟩) ?_
      · rintro w ⟨s0, s1, s2, s3, s4, s5, s6, s7⟩
        go_simp
      simp only [Act.put, List.setIfInBounds_toArray, List.set_cons_succ, List.set_cons_zero]
      refine wpAnyT_take (i := 3) (v := ptr B) (by decide) rfl (by kernel_rfl) (by kernel_rfl) (by kernel_rfl) (by kernel_rfl) (fun _ _ _ h => h) HS (Or.inl ⟨by rfl, ?_⟩) ?_
      · rintro w ⟨s0, s1, s2, s3, s4, s5, s6, s7⟩
        go_simp
      simp only [Act.put, List.setIfInBounds_toArray, List.set_cons_succ, List.set_cons_zero]
      refine wpAnyT_take (i := 4) (v := cntV ck) (by decide) rfl (by kernel_rfl) (by kernel_rfl) (by kernel_rfl) (by kernel_rfl) (fun _ _ _ h => h) HS (Or.inl ⟨by rfl, ?_⟩) ?_
      · rintro w ⟨s0, s1, s2, s3, s4, s5, s6, s7⟩
        go_simp
      simp only [Act.put, List.setIfInBounds_toArray, List.set_cons_succ, List.set_cons_zero]
      refine wpAnyT_take (i := 5) (v := .int .i64 g) (by decide) rfl (by kernel_rfl) (by kernel_rfl) (by kernel_rfl) (by kernel_rfl) (fun _ _ _ h => h) HS (Or.inl ⟨by rfl, ?_⟩) ?_
      · rintro w ⟨s0, s1, s2, s3, s4, s5, s6, s7⟩
        go_simp
      simp only [Act.put, List.setIfInBounds_toArray, List.set_cons_succ, List.set_cons_zero]
      refine wpAnyT_one (i := 6) (by kernel_rfl) rfl ?_
      go_wp2_with fail
      refine (hkq _ (gWr.trans gz6)).mono ?_
      rintro e w7 ⟨rfl, hb7⟩
      go_wp2_with fail
      refine ⟨hsh hb7, ?_⟩
      refine wpAnyT_one (i := 7) (by kernel_rfl) rfl ?_
      go_wp2_with fail
      refine (wider_c r.1 r.2 (q ck) w7).mono ?_
      rintro e w8 ⟨rfl, hb8⟩
      go_wp2_with fail
      refine ⟨hsh (hb7.trans hb8), ?_⟩
      refine wpAnyT_drop (k := 8) (by decide) rfl (by kernel_rfl) ?_
      simp only [List.drop_succ_cons, List.drop_zero]
      have g8 : G wr w8 := gz6.trans (hb7.trans hb8)
      have y := HP.out.grow g8
      have y0 := y.cell 0 (v := .int .i64 r.1) rfl
      have y1 := y.cell 1 (v := .int .i64 r.2) rfl
      have yf0 := y.frozen 0
      have yf1 := y.frozen 1
      go_wp2_with fail
      go_roundw
      case rel =>
        refine ⟨k + 1, widen r (q ck), by omega, by go_num, ?_, (y.set 0 _).set 1 _, ((HQ1.out.grow g8).far (by simp; omega) _).far (by simp; omega) _, ((HR1.out.grow g8).far (by simp; omega) _).far (by simp; omega) _, ?_⟩
        · have h := HF.out
          rw [HD.out] at h
          exact h
        · exact ((Below.trans hbw (Below.mono g8 (by have := hbw.size; omega))).setCell (by simp; omega) _).setCell (by simp; omega) _
      case measure => simp [intOf]; omega
    · obtain rfl : k = ts.length := by omega
      have y0 := HP.out.cell 0 (v := .int .i64 r.1) rfl
      have y1 := HP.out.cell 1 (v := .int .i64 r.2) rfl
      have u0 := HR1.out.cell 0 (v := .int .i64 0) rfl
      have u1 := HR1.out.cell 1 (v := .int .i64 0) rfl
      have uf0 := HR1.out.frozen 0
      have uf1 := HR1.out.frozen 1
      go_wp2_with fail
      have v2 := (HR1.out.set 0 (.int .i64 r.1)).set 1 (.int .i64 r.2)
      have e0 := v2.cell 0 (v := .int .i64 r.1) rfl
      have e1 := v2.cell 1 (v := .int .i64 r.2) rfl
      have hr : boundsL q ts = r := by
        rw [HBL.out, ← HF.out, List.drop_eq_nil_of_le (Nat.le_refl _)]
        rfl
      refine bodyPost_ret (v := .agg #[.int .i64 r.1, .int .i64 r.2]) (by simp [results, Try.results87, go_sem, e0, e1]) rfl ⟨by rw [HTS.out, hr], (gWr.setCell (by simp) _).setCell (by simp) _⟩
end Go.Proofs.Ytogdhkecpjndlaa.C

/- Rate, Full, Bounds, Clear. -/
namespace Go.Proofs.Ytogdhkecpjndlaa.C
open Go.RowKit
set_option maxRecDepth 100000

theorem askErr_zero {l : Led} (h : askErr l true = 0) : fault l = 0 ∧ truthsL l ≠ [] := by
  unfold askErr at h
  by_cases hf : fault l = 0
  · rw [if_pos hf, if_pos rfl] at h
    refine ⟨hf, fun he => ?_⟩
    rw [if_pos he] at h
    omega
  · rw [if_neg hf] at h
    exact absurd h hf
theorem ent91 : ∀ args w, (callFunc 91 args).run Try.prog w = .ok (.enter 91 args) w := enters_of Try.func91 (by kernel_rfl) rfl
theorem ent92 : ∀ args w, (callFunc 92 args).run Try.prog w = .ok (.enter 92 args) w := enters_of Try.func92 (by kernel_rfl) rfl
theorem ent86 : ∀ args w, (callFunc 86 args).run Try.prog w = .ok (.enter 86 args) w := enters_of Try.func86 (by kernel_rfl) rfl
theorem truths_len {l : Led} (hV : Valid l) : (truthsL l).length ≤ 400000 := by
  have := countsL_len hV
  have := List.length_filter_le (okL l) (countsL l)
  unfold truthsL
  omega
def rateL (l : Led) : Int × Int := if askErr l true = 0 then boundsL (fun c => c.r) (truthsL l) else (0, 0)
def fullL (l : Led) : Int := if askErr l true = 0 then (boundsL (fun c => totalFrom 0 (dues l c)) (truthsL l)).2 else 0

set_option maxHeartbeats 4000000 in
theorem Rate_c (l : Led) (A C : Option Addr) (cA cC : Nat) (w : World) (hL : LedR w l A C) (hg : l.gs.length ≤ 30) (hc : l.cs.length ≤ 30) :
    Calls Try.prog 48 #[ledV l A C cA cC] w fun e w' => e = .returned (.tuple #[.agg #[.int .i64 (rateL l).1, .int .i64 (rateL l).2], .int .i64 (askErr l true)]) ∧ G w w' := by
  have HA := Lib.hid (fun w1 (hb : G w w1) => asked_c l A C cA cC true w1 (hL.grow hb) hg hc)
  go_enter Try.func48, Try.ntmps48
  go_wp2_with fail
  have hB : G w ((w.alloc (.cells #[.int .i64 l.lo, .int .i64 l.hi, .slice A l.gs.length cA, .slice C l.cs.length cC] 38)).alloc (.cells #[.int .i64 0, .int .i64 0] 34)) := ((G.refl _).alloc _).alloc _
  have q0 : Blk ((w.alloc (.cells #[.int .i64 l.lo, .int .i64 l.hi, .slice A l.gs.length cA, .slice C l.cs.length cC] 38)).alloc (.cells #[.int .i64 0, .int .i64 0] 34)) (w.heap.size + 1) 34 #[.int .i64 0, .int .i64 0] := Blk.new' (by simp)
  generalize (w.alloc _).alloc _ = W at *
  have HL := Lib.hid hL
  refine (HA.out _ hB).mono ?_
  rintro e w1 ⟨hb1, ⟨hne, rfl⟩ | ⟨h0, B, rfl, hA⟩⟩
  · have q1 := q0.grow hb1
    have d0 := q1.cell 0 (v := .int .i64 0) rfl
    have d1 := q1.cell 1 (v := .int .i64 0) rfl
    have f0 := q1.frozen 0
    have f1 := q1.frozen 1
    have HR := Lib.hid (show rateL l = (0, 0) by unfold rateL; rw [if_neg hne])
    generalize hE : askErr l true = E at *
    have HE := Lib.hid hE
    clear hE
    go_wp2_with fail
    have q2 := (q1.set 0 (.int .i64 0)).set 1 (.int .i64 0)
    have e0 := q2.cell 0 (v := .int .i64 0) rfl
    have e1 := q2.cell 1 (v := .int .i64 0) rfl
    refine bodyPost_ret (v := .tuple #[.agg #[.int .i64 0, .int .i64 0], .int .i64 E]) (by simp [results, Try.results48, go_sem, e0, e1]) rfl ⟨by rw [HR.out, HE.out], ((hB.trans hb1).setCell (by simp) _).setCell (by simp) _⟩
  · have q1 := q0.grow hb1
    obtain ⟨hf, hne⟩ := askErr_zero h0
    have hV := valid_of hf
    have HR := Lib.hid (show rateL l = boundsL (fun c => c.r) (truthsL l) by unfold rateL; rw [if_pos h0])
    have hbd := bounds_c (g := 0) ent92 hA.view hne (truths_len hV) (fun c _ W1 _ => price_c B c 0 W1)
    generalize boundsL (fun c => c.r) (truthsL l) = r at *
    have HE := Lib.hid h0
    clear h0
    go_wp2_with fail
    refine hbd.mono ?_
    rintro e w2 ⟨rfl, hb2⟩
    have q2 := q1.grow hb2
    have d0 := q2.cell 0 (v := .int .i64 0) rfl
    have d1 := q2.cell 1 (v := .int .i64 0) rfl
    have f0 := q2.frozen 0
    have f1 := q2.frozen 1
    go_wp2_with fail
    have q3 := (q2.set 0 (.int .i64 r.1)).set 1 (.int .i64 r.2)
    have e0 := q3.cell 0 (v := .int .i64 r.1) rfl
    have e1 := q3.cell 1 (v := .int .i64 r.2) rfl
    refine bodyPost_ret (v := .tuple #[.agg #[.int .i64 r.1, .int .i64 r.2], .int .i64 0]) (by simp [results, Try.results48, go_sem, e0, e1]) rfl ⟨by rw [HR.out, HE.out], (((hB.trans hb1).trans hb2).setCell (by simp) _).setCell (by simp) _⟩

theorem fld34 (a b : Int) (w : World) : (Instr.field 34 (.agg #[.int .i64 a, .int .i64 b]) 1).run Try.prog w = .ok (.int .i64 b) w := by
  first | rfl | (simp [Instr.field, Try.underlying34, go_sem]; done) | (unfold Instr.field; simp [run_underlying Try.underlying34, go_sem])

set_option maxHeartbeats 4000000 in
theorem Full_c (l : Led) (A C : Option Addr) (cA cC : Nat) (w : World) (hL : LedR w l A C) (hg : l.gs.length ≤ 30) (hc : l.cs.length ≤ 30) :
    Calls Try.prog 35 #[ledV l A C cA cC] w fun e w' => e = .returned (.tuple #[.int .i64 (fullL l), .int .i64 (askErr l true)]) ∧ G w w' := by
  have HA := Lib.hid (fun w1 (hb : G w w1) => asked_c l A C cA cC true w1 (hL.grow hb) hg hc)
  go_enter Try.func35, Try.ntmps35
  go_wp2_with fail
  have hB : G w (w.alloc (.cells #[.int .i64 l.lo, .int .i64 l.hi, .slice A l.gs.length cA, .slice C l.cs.length cC] 38)) := (G.refl _).alloc _
  generalize w.alloc _ = W at *
  refine (HA.out _ hB).mono ?_
  rintro e w1 ⟨hb1, ⟨hne, rfl⟩ | ⟨h0, B, rfl, hA⟩⟩
  · have HR := Lib.hid (show fullL l = 0 by unfold fullL; rw [if_neg hne])
    generalize hE : askErr l true = E at *
    have HE := Lib.hid hE
    clear hE
    go_wp2_with fail
    go_ret2
    exact ⟨by simp [HR.out, HE.out], hB.trans hb1⟩
  · obtain ⟨hf, hne⟩ := askErr_zero h0
    have hV := valid_of hf
    have HR := Lib.hid (show fullL l = (boundsL (fun c => totalFrom 0 (dues l c)) (truthsL l)).2 by unfold fullL; rw [if_pos h0])
    have hbd := bounds_c (g := 0) ent86 hA.view hne (truths_len hV) (fun c hc W1 hg1 => sum_c hV (hL.g.grow ((hB.trans hb1).trans hg1)) (hA.view.grow hg1) (truth_ok hV hc) 0)
    generalize boundsL (fun c => totalFrom 0 (dues l c)) (truthsL l) = r at *
    have HE := Lib.hid h0
    clear h0
    go_wp2_with fail
    refine hbd.mono ?_
    rintro e w2 ⟨rfl, hb2⟩
    have hfld := fld34 r.1 r.2 w2
    go_wp2_with fail
    go_ret2
    exact ⟨by simp [HR.out, HE.out], (hB.trans hb1).trans hb2⟩

theorem und75 : Try.prog.underlying 75 = some (.slice 34) := by kernel_rfl
section
variable {ops : Array Oper} {rest : List Oper} {o : Oper} {a : Act} {Q : Exit → Act → World → Prop} {W : World}
theorem app_r (base : Nat) (hgd : o.guard = none) (s x : Operand) (ho : o.op = .call { callee := .builtin .append, args := #[s, x], argTypes := #[75, 75] }) (v : Value) (xs : List (Int × Int)) (y : Int × Int) (hs : a.eval s = v) (b : Nat)
    (hx : a.eval x = .slice (some ⟨b, 0, none⟩) 1 1) (hn0 : W.cell? ⟨b, 0, none⟩ = some (.int .i64 y.1)) (hn1 : W.cell? ⟨b, 1, none⟩ = some (.int .i64 y.2)) (HO : Own2 34 base W v xs) (hbase : base ≤ W.heap.size) (hl : xs.length ≤ 100000000)
    (h : ∀ v1 w1, Own2 34 base w1 v1 (xs ++ [y]) → W.grownBy w1 v.ownBlock → (v1.ownBlock = v.ownBlock ∨ v1.ownBlock = some W.heap.size) → wpList Try.prog ops Q rest (a.put o.dst v1) w1) :
    wpList Try.prog ops Q (o :: rest) a W :=
  app_cells 75 34 _ 2 16 und75 info34 rfl (by omega) (by omega) base hgd s x ho v xs.length (cells2 xs) (cells2 [y]) hs b hx rfl (by simp [cells2, Value.oneCell'])
    (fun j u hj => by
      match j, hj with
      | 0, hj => simp [cells2] at hj; subst hj; exact hn0
      | 1, hj => simp [cells2] at hj; subst hj; exact hn1
      | j + 2, hj => simp [cells2] at hj) HO hbase hl
    fun v1 w1 h2 h3 h4 => h v1 w1 (by simpa [Own2, cells2_append] using h2) h3 h4
end

/-- The bounds of what all growers are owed. -/
def dueB (l : Led) (k : Nat) : Int × Int := boundsL (fun c => owed l c k) (truthsL l)
def boundL (l : Led) : List (Int × Int) := if askErr l true = 0 then (List.range l.gs.length).map (dueB l) else []

set_option maxHeartbeats 4000000 in
theorem Bounds_c (l : Led) (A C : Option Addr) (cA cC : Nat) (w : World) (hL : LedR w l A C) (hg : l.gs.length ≤ 30) (hc : l.cs.length ≤ 30) :
    Calls Try.prog 47 #[ledV l A C cA cC] w fun e w' => (∃ v, e = .returned (.tuple #[v, .int .i64 (askErr l true)]) ∧ Own2 34 w.heap.size w' v (boundL l)) ∧ G w w' := by
  have HA := Lib.hid (fun w1 (hb : G w w1) => asked_c l A C cA cC true w1 (hL.grow hb) hg hc)
  go_enter Try.func47, Try.ntmps47
  go_wp2_with fail
  have hB : G w (w.alloc (.cells #[.int .i64 l.lo, .int .i64 l.hi, .slice A l.gs.length cA, .slice C l.cs.length cC] 38)) := (G.refl _).alloc _
  have q0 : Blk (w.alloc (.cells #[.int .i64 l.lo, .int .i64 l.hi, .slice A l.gs.length cA, .slice C l.cs.length cC] 38)) w.heap.size 38 #[.int .i64 l.lo, .int .i64 l.hi, .slice A l.gs.length cA, .slice C l.cs.length cC] := Blk.new _ _ _
  generalize w.alloc _ = W at *
  refine (HA.out _ hB).mono ?_
  rintro e w1 ⟨hb1, ⟨hne, rfl⟩ | ⟨h0, B, rfl, hA⟩⟩
  · have HR := Lib.hid (show boundL l = [] by unfold boundL; rw [if_neg hne])
    generalize hE : askErr l true = E at *
    have HE := Lib.hid hE
    clear hE
    go_wp2_with fail
    go_ret2
    exact ⟨⟨.slice none 0 0, by simp [HE.out], by rw [HR.out]; exact World.ownsRow_nil _ _ _ _⟩, hB.trans hb1⟩
  · obtain ⟨hf, hne⟩ := askErr_zero h0
    have hV := valid_of hf
    have HR := Lib.hid (show boundL l = (List.range l.gs.length).map (dueB l) by unfold boundL; rw [if_pos h0])
    have HB := Lib.hid (fun (k : Nat) (hk : k < l.gs.length) (W1 : World) (hg1 : G w1 W1) => bounds_c (W := W1) (g := (k : Int)) ent91 (hA.view.grow hg1) hne (truths_len hV) (fun c hc W2 hg2 => due_c hV (hL.g.grow (((hB.trans hb1).trans hg1).trans hg2)) (hA.view.grow (hg1.trans hg2)) (truth_ok hV hc) hk))
    have HE := Lib.hid h0
    have q1 := (q0.grow hb1).cell 2 (v := .slice A l.gs.length cA) rfl
    have hng := hV.ng
    clear h0 hne
    have hBB := hB.trans hb1
    go_wp2_with fail
    go_loopw [6, 19] (fun v6 v19 wr => ∃ k : Nat, k ≤ l.gs.length ∧ v19 = .int .i64 k ∧ Hid (Own2 34 w1.heap.size wr v6 ((List.range k).map (dueB l))) ∧ G w1 wr) (fun _ v19 _ => l.gs.length - (intOf v19).toNat)
    case atStart => exact ⟨0, by omega, rfl, World.ownsRow_nil _ _ _ _, G.refl _⟩
    case round =>
      obtain ⟨k, hk, rfl, HO, hbr⟩ := hrel
      by_cases hlt : k < l.gs.length
      · have hkk := HB.out k hlt wr hbr
        have HDB := Lib.hid (show boundsL (fun c => owed l c k) (truthsL l) = dueB l k from rfl)
        rw [HDB.out] at hkk
        generalize hdb : dueB l k = r at *
        have HDB2 := Lib.hid hdb
        clear hdb HDB
        go_wp2_with fail
        refine hkk.mono ?_
        rintro e w2 ⟨rfl, hb2⟩
        go_wp2_with (at_builtin; refine app_r w1.heap.size rfl _ _ rfl _ _ r rfl w2.heap.size rfl (newCell _ _ _ _ rfl) (newCell _ _ _ _ rfl) (own_grow HO.out (hb2.alloc _)) ((hbr.trans hb2).alloc _).size (by simp; omega) ?_; intro v1 w3 hown1 hg1 _)
        have HO2 := Lib.hid hown1
        have hb3 : G w1 w3 := ((hbr.trans hb2).alloc _).grown hg1 (own_base HO.out)
        clear hown1 hg1
        go_wp2_with fail
        go_roundw
        case rel => exact ⟨k + 1, by omega, by go_num, by rw [List.range_succ, List.map_append]; simp only [List.map_cons, List.map_nil, HDB2.out]; exact HO2.out, hb3⟩
        case measure => simp [intOf]; omega
      · obtain rfl : k = l.gs.length := by omega
        go_wp2_with fail
        go_ret2
        have ho := HO.out
        rw [← HR.out] at ho
        exact ⟨⟨_, by simp [HE.out], own_lower ho hBB.size⟩, hBB.trans hbr⟩
end Go.Proofs.Ytogdhkecpjndlaa.C

/- Clear, Struck, First. -/
namespace Go.Proofs.Ytogdhkecpjndlaa.C
open Go.RowKit
set_option maxRecDepth 100000

def verdict (r : Int × Int) : Int := if 0 ≤ r.1 then 1 else if r.2 < 0 then 2 else 3
def clearL (l : Led) : List Int := (boundL l).map verdict
theorem boundL_len (l : Led) : (boundL l).length ≤ l.gs.length := by unfold boundL; split <;> simp

set_option maxHeartbeats 4000000 in
theorem Clear_c (l : Led) (A C : Option Addr) (cA cC : Nat) (w : World) (hL : LedR w l A C) (hg : l.gs.length ≤ 30) (hc : l.cs.length ≤ 30) :
    Calls Try.prog 23 #[ledV l A C cA cC] w fun e w' => (∃ v, e = .returned (.tuple #[v, .int .i64 (askErr l true)]) ∧ OwnI w.heap.size w' v (clearL l)) ∧ G w w' := by
  have HA := Lib.hid (fun w1 (hb : G w w1) => Bounds_c l A C cA cC w1 (hL.grow hb) hg hc)
  have HN : Hid (askErr l true ≠ 0 → clearL l = []) := fun h => by unfold clearL boundL; rw [if_neg h]; rfl
  have hbl := boundL_len l
  go_enter Try.func23, Try.ntmps23
  go_wp2_with fail
  have hB : G w (w.alloc (.cells #[.int .i64 l.lo, .int .i64 l.hi, .slice A l.gs.length cA, .slice C l.cs.length cC] 38)) := (G.refl _).alloc _
  generalize w.alloc _ = W at *
  refine (HA.out _ hB).mono ?_
  rintro e w1 ⟨⟨v, rfl, hO⟩, hb1⟩
  obtain ⟨A1, c1, rfl, hl1, hR1⟩ := hO.row
  have HR1 := Lib.hid hR1
  have HC : Hid (clearL l = (boundL l).map verdict) := rfl
  clear hO hR1
  generalize boundL l = bs at *
  have hBB := hB.trans hb1
  by_cases h0 : askErr l true = 0
  · rw [h0]
    have HE := Lib.hid h0
    clear h0
    go_wp2_with fail
    go_loopw [6, 19] (fun v6 v19 wr => ∃ k : Nat, k ≤ bs.length ∧ v19 = .int .i64 k ∧ Hid (OwnI w1.heap.size wr v6 ((bs.take k).map verdict)) ∧ G w1 wr) (fun _ v19 _ => bs.length - (intOf v19).toNat)
    case atStart => exact ⟨0, by omega, rfl, OwnI.nil _ _, G.refl _⟩
    case round =>
      obtain ⟨k, hk, rfl, HO, hbr⟩ := hrel
      by_cases hlt : k < bs.length
      · obtain ⟨b, off, rfl, t0, t1⟩ := (HR1.out.grow hbr).at hlt
        have HT : Hid ((bs.take (k + 1)).map verdict = (bs.take k).map verdict ++ [verdict bs[k]]) := by unfold Hid; rw [List.take_succ_eq_append_getElem hlt, List.map_append]; rfl
        have hsz : ((bs.take k).map verdict).length ≤ 100000000 := by simp; omega
        generalize bs[k] = r at *
        have g2 : G wr (wr.alloc (.cells #[.int .i64 r.1, .int .i64 r.2] 34)) := (G.refl _).alloc _
        have hv : (verdict r = 1 ∧ 0 ≤ r.1) ∨ (verdict r = 2 ∧ r.1 < 0 ∧ r.2 < 0) ∨ (verdict r = 3 ∧ r.1 < 0 ∧ 0 ≤ r.2) := by unfold verdict; split; omega; split <;> omega
        rcases hv with ⟨hv, h1⟩ | ⟨hv, h1, h2⟩ | ⟨hv, h1, h2⟩
        all_goals
          rw [hv] at HT
          clear hv
          go_wp2_with (at_builtin; refine app_i w1.heap.size rfl _ _ rfl _ _ _ rfl (wr.heap.size + 1) rfl (ncell (by simp) rfl) (HO.out.grow (g2.alloc _)) (hbr.trans (g2.alloc _)).size hsz ?_; intro v1 w3 hown1 hg1 _)
          have HO2 := Lib.hid hown1
          have hb3 : G w1 w3 := (hbr.trans (g2.alloc _)).grown hg1 HO.out.base
          clear hown1 hg1
          go_wp2_with fail
          go_roundw
          case rel => exact ⟨k + 1, by omega, by go_num, by rw [HT.out]; exact HO2.out, hb3⟩
          case measure => simp [intOf]; omega
      · obtain rfl : k = bs.length := by omega
        go_wp2_with fail
        go_ret2
        have ho := HO.out
        rw [List.take_length, ← HC.out] at ho
        exact ⟨⟨_, by simp [HE.out], OwnI.lower ho hBB.size⟩, hBB.trans hbr⟩
  · have HCN := Lib.hid (HN.out h0)
    generalize hE : askErr l true = E at *
    have HE := Lib.hid hE
    clear hE HN
    go_wp2_with fail
    go_ret2
    exact ⟨⟨.slice none 0 0, by simp [HE.out], by rw [HCN.out]; exact OwnI.nil _ _⟩, hBB⟩

/-- A ledger with other claims. -/
def withC (l : Led) (cs : List T3) : Led := { l with cs := cs }
theorem valid_with {l : Led} (hV : Valid l) {cs : List T3} (h : ∀ c ∈ cs, c ∈ l.cs) (hl : cs.length ≤ 5) : Valid (withC l cs) :=
  ⟨hV.ng, hl, hV.r0, hV.r1, hV.r2, hV.g, fun c hc => hV.c c (h c hc), hV.m⟩
theorem Row3.sub {w : World} {b off : Nat} {xs : List T3} (h : Row3 w (some ⟨b, off, none⟩) xs) (i n : Nat) : Row3 w (some ⟨b, off + i * 3, none⟩) ((xs.drop i).take n) := fun j g hj => by
  have hj' : xs[i + j]? = some g := by
    rw [List.getElem?_take] at hj
    split at hj
    · rw [List.getElem?_drop] at hj; exact hj
    · simp at hj
  obtain ⟨b', off', e, h0, h1, h2⟩ := h (i + j) g hj'
  cases e
  refine ⟨b, off + i * 3, rfl, ?_, ?_, ?_⟩
  · rw [show off + i * 3 + j * 3 = off + (i + j) * 3 by omega]; exact h0
  · rw [show off + i * 3 + j * 3 + 1 = off + (i + j) * 3 + 1 by omega]; exact h1
  · rw [show off + i * 3 + j * 3 + 2 = off + (i + j) * 3 + 2 by omega]; exact h2
def oneC (l : Led) (i : Nat) : Led := withC l ((l.cs.drop i).take 1)
def headC (l : Led) (i : Nat) : Led := withC l (l.cs.take (i + 1))
def struckTo (l : Led) (k : Nat) : List Int := ((List.range k).filter fun i => !anyR (oneC l i) []).map fun (i : Nat) => (i : Int)
def struckL (l : Led) : List Int := if fault l = 0 then struckTo l l.cs.length else []
theorem struckTo_succ (l : Led) (k : Nat) : struckTo l (k + 1) = if anyR (oneC l k) [] = true then struckTo l k else struckTo l k ++ [(k : Int)] := by
  unfold struckTo
  rw [List.range_succ, List.filter_append, List.map_append]
  cases h : anyR (oneC l k) [] <;> simp [h]

theorem possibleN (l : Led) (A C : Option Addr) (cA cC n : Nat) (lo hi : Int) (m : Nat) (w : World) (hV : Valid l) (hL : LedR w l A C) (hlo : lo = l.lo) (hhi : hi = l.hi) (hm : m = l.gs.length) (hn : n = l.cs.length) :
    Calls Try.prog 89 #[.agg #[.int .i64 lo, .int .i64 hi, .slice A m cA, .slice C n cC], .slice none 0 0] w fun e w' => e = .returned (.bool (anyR l [])) ∧ G w w' := by
  subst hn hlo hhi hm
  exact possible_c l A C none cA cC 0 [] w hV hL RowI.nil (by simp)
theorem oneC_len {l : Led} {k : Nat} (h : k < l.cs.length) : (oneC l k).cs.length = 1 := by simp [oneC, withC]; omega
theorem headC_len {l : Led} {k : Nat} (h : k < l.cs.length) : (headC l k).cs.length = k + 1 := by simp [headC, withC]; omega

set_option maxHeartbeats 4000000 in
theorem Struck_c (l : Led) (A C : Option Addr) (cA cC : Nat) (w : World) (hL : LedR w l A C) (hg : l.gs.length ≤ 30) (hc : l.cs.length ≤ 30) (hcc : l.cs.length ≤ cC) :
    Calls Try.prog 53 #[ledV l A C cA cC] w fun e w' => (∃ v, e = .returned (.tuple #[v, .int .i64 (fault l)]) ∧ OwnI w.heap.size w' v (struckL l)) ∧ G w w' := by
  have HA := Lib.hid (fun w1 (hb : G w w1) => Check_c l A C cA cC w1 (hL.grow hb) hg hc)
  have HN : Hid (fault l ≠ 0 → struckL l = []) := fun h => by unfold struckL; rw [if_neg h]
  have HY : Hid (fault l = 0 → struckL l = struckTo l l.cs.length) := fun h => by unfold struckL; rw [if_pos h]
  go_enter Try.func53, Try.ntmps53
  go_wp2_with fail
  have hB : G w (w.alloc (.cells #[.int .i64 l.lo, .int .i64 l.hi, .slice A l.gs.length cA, .slice C l.cs.length cC] 38)) := (G.refl _).alloc _
  have q0 : Blk (w.alloc (.cells #[.int .i64 l.lo, .int .i64 l.hi, .slice A l.gs.length cA, .slice C l.cs.length cC] 38)) w.heap.size 38 #[.int .i64 l.lo, .int .i64 l.hi, .slice A l.gs.length cA, .slice C l.cs.length cC] := Blk.new _ _ _
  generalize w.alloc _ = W at *
  refine (HA.out _ hB).mono ?_
  rintro e w1 ⟨rfl, hb1⟩
  have hBB := hB.trans hb1
  by_cases h0 : fault l = 0
  · have HV := Lib.hid (valid_of h0)
    have HYY := Lib.hid (HY.out h0)
    rw [h0]
    have HE := Lib.hid h0
    clear h0 HN HY
    have q1 := q0.grow hb1
    have d0 := q1.cell 0 (v := .int .i64 l.lo) rfl
    have d1 := q1.cell 1 (v := .int .i64 l.hi) rfl
    have d2 := q1.cell 2 (v := .slice A l.gs.length cA) rfl
    have d3 := q1.cell 3 (v := .slice C l.cs.length cC) rfl
    have hlt1 := q1.lt
    go_upto_region 6 with fail
    generalize hW : w1.alloc _ = W2
    have g2 : G w1 W2 := by rw [← hW]; exact (G.refl _).alloc _
    have p0 : Blk W2 w1.heap.size 38 #[.int .i64 l.lo, .int .i64 l.hi, .slice A l.gs.length cA, .slice C l.cs.length cC] := by rw [← hW]; exact Blk.new _ _ _
    have hz2 := p0.lt
    clear hW
    have q2 := q1.grow g2
    have d32 := q2.cell 3 (v := .slice C l.cs.length cC) rfl
    clear d0 d1 d2 d3
    have HL := Lib.hid hL
    have P0 := Lib.hid p0
    have Q2 := Lib.hid q2
    clear p0 q0 q1
    go_wp2_with fail
    go_loopw [5, 17] (fun v5 v17 wr => ∃ (k : Nat) (u : Value), k ≤ l.cs.length ∧ v17 = .int .i64 k ∧ Hid (OwnI W2.heap.size wr v5 (struckTo l k)) ∧ Hid (Blk wr w1.heap.size 38 #[.int .i64 l.lo, .int .i64 l.hi, .slice A l.gs.length cA, u]) ∧ Below w1.heap.size W2 wr) (fun _ v17 _ => l.cs.length - (intOf v17).toNat)
    case atStart => exact ⟨0, _, by omega, rfl, OwnI.nil _ _, P0.out, Below.refl _ _⟩
    case round =>
      obtain ⟨k, u, hk, rfl, HO, HP, hbw⟩ := hrel
      have gWr : G w wr := Below.trans (hBB.trans g2) (hbw.mono hBB.size)
      have e3 : wr.cell? ⟨w.heap.size, 3, none⟩ = some (.slice C l.cs.length cC) := (hbw.cell (p := ⟨w.heap.size, 3, none⟩) hlt1).trans d32
      by_cases hlt : k < l.cs.length
      · obtain ⟨b, off, rfl, -⟩ := HL.out.c.at hlt
        have hk0 : (0 : Int) ≤ k := by omega
        have hk5 : k + 1 ≤ cC := by omega
        have hkc : (k : Int) + 1 ≤ cC := by omega
        have hkl : (k : Int) < l.cs.length := by omega
        have u0 := HP.out.cell 0 (v := .int .i64 l.lo) rfl
        have u1 := HP.out.cell 1 (v := .int .i64 l.hi) rfl
        have u2 := HP.out.cell 2 (v := .slice A l.gs.length cA) rfl
        have u3 := HP.out.cell 3 (v := u) rfl
        have uf := HP.out.frozen 3
        go_wp2_with fail
        have hb8 : Below w1.heap.size W2 (wr.setCell ⟨w1.heap.size, 3, none⟩ (.slice (some ⟨b, off + k * 3, none⟩) 1 (cC - k))) := hbw.setCell (by simp) _
        have gW8 : G w (wr.setCell ⟨w1.heap.size, 3, none⟩ (.slice (some ⟨b, off + k * 3, none⟩) 1 (cC - k))) := gWr.setCell (by have := hBB.size; simp; omega) _
        have hp8 := HP.out.set 3 (.slice (some ⟨b, off + k * 3, none⟩) 1 (cC - k))
        have ho8 : OwnI W2.heap.size (wr.setCell ⟨w1.heap.size, 3, none⟩ (.slice (some ⟨b, off + k * 3, none⟩) 1 (cC - k))) _ (struckTo l k) := own_block HO.out (fun j hj => Below.heap_setCell wr _ _ j (by have := own_base HO.out j hj; simp; omega))
        have hz8 : W2.heap.size ≤ (wr.setCell ⟨w1.heap.size, 3, none⟩ (.slice (some ⟨b, off + k * 3, none⟩) 1 (cC - k))).heap.size := hb8.size
        generalize wr.setCell _ _ = w8 at *
        refine (possibleN (oneC l k) A _ cA (cC - k) 1 l.lo l.hi l.gs.length w8 (valid_with HV.out (fun c hc => List.mem_of_mem_drop (List.mem_of_mem_take hc)) (by have := oneC_len hlt; unfold oneC withC at this; simp only at this; omega)) ⟨HL.out.g.grow gW8, (HL.out.c.grow gW8).sub k 1⟩ rfl rfl rfl (oneC_len hlt).symm).mono ?_
        rintro e w9 ⟨rfl, hb9⟩
        have hsl : (struckTo l k).length ≤ 100000000 := by
          unfold struckTo
          rw [List.length_map]
          have := List.length_filter_le (fun i => !anyR (oneC l i) []) (List.range k)
          rw [List.length_range] at this
          have := HV.out.nc
          omega
        have HS := Lib.hid (struckTo_succ l k)
        have HO8 := Lib.hid ho8
        have HP8 := Lib.hid hp8
        clear ho8 hp8
        have hb89 : Below w1.heap.size W2 w9 := Below.trans hb8 (hb9.mono (by omega))
        cases hr : anyR (oneC l k) []
        · have HR := Lib.hid hr
          clear hr
          go_wp2_with (at_builtin; refine app_i W2.heap.size rfl _ _ rfl _ _ _ rfl w9.heap.size rfl (newCell _ _ _ _ rfl) (HO8.out.grow (hb9.alloc _)) (by have := (hb9.alloc (.cells #[.int .i64 k] 3)).size; omega) hsl ?_; intro v1 w10 hown1 hg1 _)
          have HO2 := Lib.hid hown1
          have hb10 : Below w1.heap.size W2 w10 := (hb89.alloc (by have := hb9.size; omega) _).grown hg1 (by have := hb9.size; simp; omega) (fun j hj => by have := own_base HO8.out j hj; omega)
          have hp10 : Blk w10 w1.heap.size 38 #[.int .i64 l.lo, .int .i64 l.hi, .slice A l.gs.length cA, .slice (some ⟨b, off + k * 3, none⟩) 1 (cC - k)] := (HP8.out.grow (hb9.alloc _)).grown hg1 (fun e => by have := own_base HO8.out _ e.symm; omega)
          have HP10 := Lib.hid hp10
          clear hown1 hg1 hp10
          go_wp2_with fail
          go_roundw
          case rel => exact ⟨k + 1, _, by omega, by go_num, by rw [HS.out, HR.out]; exact HO2.out, HP10.out, hb10⟩
          case measure => simp [intOf]; omega
        · have HR := Lib.hid hr
          clear hr
          go_wp2_with fail
          go_roundw
          case rel => exact ⟨k + 1, _, by omega, by go_num, by rw [HS.out, HR.out]; exact HO8.out.grow hb9, HP8.out.grow hb9, hb89⟩
          case measure => simp [intOf]; omega
      · obtain rfl : k = l.cs.length := by omega
        go_wp2_with fail
        go_ret2
        have ho := HO.out
        rw [← HYY.out] at ho
        exact ⟨⟨_, by simp [HE.out], OwnI.lower ho (by have := hBB.size; omega)⟩, gWr⟩
  · have HCN := Lib.hid (HN.out h0)
    generalize hE : fault l = E at *
    have HE := Lib.hid hE
    clear hE HN HY
    go_wp2_with fail
    go_ret2
    exact ⟨⟨.slice none 0 0, by simp [HE.out], by rw [HCN.out]; exact OwnI.nil _ _⟩, hBB⟩

def firstG (l : Led) : List Nat → Int × Int
  | [] => (0, 7)
  | i :: is => if anyR (headC l i) [] = true then firstG l is else (i, 0)
def firstL (l : Led) : Int × Int := if fault l = 0 then firstG l (List.range l.cs.length) else (0, fault l)

set_option maxHeartbeats 4000000 in
theorem First_c (l : Led) (A C : Option Addr) (cA cC : Nat) (w : World) (hL : LedR w l A C) (hg : l.gs.length ≤ 30) (hc : l.cs.length ≤ 30) (hcc : l.cs.length ≤ cC) :
    Calls Try.prog 43 #[ledV l A C cA cC] w fun e w' => e = .returned (.tuple #[.int .i64 (firstL l).1, .int .i64 (firstL l).2]) ∧ G w w' := by
  have HA := Lib.hid (fun w1 (hb : G w w1) => Check_c l A C cA cC w1 (hL.grow hb) hg hc)
  have HN : Hid (fault l ≠ 0 → firstL l = (0, fault l)) := fun h => by unfold firstL; rw [if_neg h]
  have HY : Hid (fault l = 0 → firstL l = firstG l (List.range l.cs.length)) := fun h => by unfold firstL; rw [if_pos h]
  go_enter Try.func43, Try.ntmps43
  go_wp2_with fail
  have hB : G w (w.alloc (.cells #[.int .i64 l.lo, .int .i64 l.hi, .slice A l.gs.length cA, .slice C l.cs.length cC] 38)) := (G.refl _).alloc _
  have q0 : Blk (w.alloc (.cells #[.int .i64 l.lo, .int .i64 l.hi, .slice A l.gs.length cA, .slice C l.cs.length cC] 38)) w.heap.size 38 #[.int .i64 l.lo, .int .i64 l.hi, .slice A l.gs.length cA, .slice C l.cs.length cC] := Blk.new _ _ _
  generalize w.alloc _ = W at *
  refine (HA.out _ hB).mono ?_
  rintro e w1 ⟨rfl, hb1⟩
  have hBB := hB.trans hb1
  by_cases h0 : fault l = 0
  · have HV := Lib.hid (valid_of h0)
    have HYY := Lib.hid (HY.out h0)
    rw [h0]
    have HE := Lib.hid h0
    clear h0 HN HY
    have q1 := q0.grow hb1
    have d0 := q1.cell 0 (v := .int .i64 l.lo) rfl
    have d1 := q1.cell 1 (v := .int .i64 l.hi) rfl
    have d2 := q1.cell 2 (v := .slice A l.gs.length cA) rfl
    have d3 := q1.cell 3 (v := .slice C l.cs.length cC) rfl
    have hlt1 := q1.lt
    go_upto_region 5 with fail
    generalize hW : w1.alloc _ = W2
    have g2 : G w1 W2 := by rw [← hW]; exact (G.refl _).alloc _
    have p0 : Blk W2 w1.heap.size 38 #[.int .i64 l.lo, .int .i64 l.hi, .slice A l.gs.length cA, .slice C l.cs.length cC] := by rw [← hW]; exact Blk.new _ _ _
    have hz2 := p0.lt
    clear hW
    have q2 := q1.grow g2
    have d32 := q2.cell 3 (v := .slice C l.cs.length cC) rfl
    clear d0 d1 d2 d3
    have HL := Lib.hid hL
    have P0 := Lib.hid p0
    clear p0 q0 q1 q2
    go_wp2_with fail
    go_loopw [16] (fun v16 wr => ∃ (k : Nat) (u : Value), k ≤ l.cs.length ∧ v16 = .int .i64 k ∧ Hid (firstG l ((List.range l.cs.length).drop k) = firstG l (List.range l.cs.length)) ∧ Hid (Blk wr w1.heap.size 38 #[.int .i64 l.lo, .int .i64 l.hi, .slice A l.gs.length cA, u]) ∧ Below w1.heap.size W2 wr) (fun v16 _ => l.cs.length - (intOf v16).toNat)
    case atStart => exact ⟨0, _, by omega, rfl, rfl, P0.out, Below.refl _ _⟩
    case round =>
      obtain ⟨k, u, hk, rfl, HF, HP, hbw⟩ := hrel
      have gWr : G w wr := Below.trans (hBB.trans g2) (hbw.mono hBB.size)
      have e3 : wr.cell? ⟨w.heap.size, 3, none⟩ = some (.slice C l.cs.length cC) := (hbw.cell (p := ⟨w.heap.size, 3, none⟩) hlt1).trans d32
      by_cases hlt : k < l.cs.length
      · obtain ⟨b, off, rfl, -⟩ := HL.out.c.at hlt
        have hk0 : (0 : Int) ≤ k := by omega
        have hk5 : k + 1 ≤ cC := by omega
        have hkc : (k : Int) + 1 ≤ cC := by omega
        have hkl : (k : Int) < l.cs.length := by omega
        have u0 := HP.out.cell 0 (v := .int .i64 l.lo) rfl
        have u1 := HP.out.cell 1 (v := .int .i64 l.hi) rfl
        have u2 := HP.out.cell 2 (v := .slice A l.gs.length cA) rfl
        have u3 := HP.out.cell 3 (v := u) rfl
        have uf := HP.out.frozen 3
        go_wp2_with fail
        have hb8 : Below w1.heap.size W2 (wr.setCell ⟨w1.heap.size, 3, none⟩ (.slice (some ⟨b, off, none⟩) (k + 1) cC)) := hbw.setCell (by simp) _
        have gW8 : G w (wr.setCell ⟨w1.heap.size, 3, none⟩ (.slice (some ⟨b, off, none⟩) (k + 1) cC)) := gWr.setCell (by have := hBB.size; simp; omega) _
        have hp8 := HP.out.set 3 (.slice (some ⟨b, off, none⟩) (k + 1) cC)
        have hz8 : W2.heap.size ≤ (wr.setCell ⟨w1.heap.size, 3, none⟩ (.slice (some ⟨b, off, none⟩) (k + 1) cC)).heap.size := hb8.size
        generalize wr.setCell _ _ = w8 at *
        refine (possibleN (headC l k) A _ cA cC (k + 1) l.lo l.hi l.gs.length w8 (valid_with HV.out (fun c hc => List.mem_of_mem_take hc) (by have := HV.out.nc; simp; omega)) ⟨HL.out.g.grow gW8, (HL.out.c.grow gW8).sub 0 (k + 1)⟩ rfl rfl rfl (headC_len hlt).symm).mono ?_
        rintro e w9 ⟨rfl, hb9⟩
        have HS : Hid (firstG l ((List.range l.cs.length).drop k) = if anyR (headC l k) [] = true then firstG l ((List.range l.cs.length).drop (k + 1)) else (k, 0)) := by
          unfold Hid
          rw [List.drop_eq_getElem_cons (by simpa using hlt), List.getElem_range, firstG]
        have HP8 := Lib.hid hp8
        clear hp8
        have hb89 : Below w1.heap.size W2 w9 := Below.trans hb8 (hb9.mono (by omega))
        cases hr : anyR (headC l k) []
        · have HR := Lib.hid hr
          clear hr
          go_wp2_with fail
          go_ret2
          have h1 := HS.out
          rw [HF.out, ← HYY.out, HR.out] at h1
          exact ⟨by simp [h1], gW8.trans hb9⟩
        · have HR := Lib.hid hr
          clear hr
          go_wp2_with fail
          go_roundw
          case rel =>
            have h1 := HS.out
            rw [HF.out, HR.out, if_pos rfl] at h1
            exact ⟨k + 1, _, by omega, by go_num, h1.symm, HP8.out.grow hb9, hb89⟩
          case measure => simp [intOf]; omega
      · obtain rfl : k = l.cs.length := by omega
        go_wp2_with fail
        go_ret2
        have h1 := HF.out
        rw [List.drop_eq_nil_of_le (by simp), ← HYY.out, firstG] at h1
        exact ⟨by simp [← h1], gWr⟩
  · have HCN := Lib.hid (HN.out h0)
    generalize hE : fault l = E at *
    have HE := Lib.hid hE
    clear hE HN HY
    go_wp2_with fail
    go_ret2
    exact ⟨by simp [HCN.out], hBB⟩
end Go.Proofs.Ytogdhkecpjndlaa.C

/- What all growers surely get of a sum. -/
namespace Go.Proofs.Ytogdhkecpjndlaa.C
open Go.RowKit
set_option maxRecDepth 100000

theorem OwnI.set {base : Nat} {w : World} {A : Option Addr} {n c : Nat} {xs : List Int} (h : OwnI base w (.slice A n c) xs) {i : Nat} (hi : i < xs.length) (x : Int) :
    ∃ g, A = some ⟨g, 0, none⟩ ∧ base ≤ g ∧ w.cell? ⟨g, i, none⟩ = some (.int .i64 xs[i]) ∧ w.frozen? ⟨g, i, none⟩ = false ∧ OwnI base (w.setCell ⟨g, i, none⟩ (.int .i64 x)) (.slice A n c) (xs.set i x) := by
  obtain ⟨h0, h1⟩ := h
  rcases h1 with ⟨_, h2⟩ | ⟨g, cap, cur, hv, hb, hg, hcap, hmax, hsz, htk⟩
  · omega
  · cases hv
    have hB : Blk w g 3 cur := hg
    refine ⟨g, rfl, hb, ?_, hB.frozen i, ?_, .inr ⟨g, c, cur.setIfInBounds i (.int .i64 x), ?_, hb, hB.set i _, by simpa using hcap, hmax, ?_, ?_⟩⟩
    · refine hB.cell i ?_
      have h3 : (ints xs)[i]? = some (.int .i64 xs[i]) := by simp [ints, hi]
      rw [← htk, List.getElem?_take] at h3
      split at h3
      · simpa using h3
      · simp at h3
    · simp [ints]
    · rw [List.length_set]
    · simpa using hsz
    · rw [List.length_set, Array.toList_setIfInBounds, List.take_set, htk]
      simp [ints, List.map_set]

def min2 (a b : Int) : Int := if b < a then b else a
/-- The first i numbers are the lesser ones of two lists. -/
def minTo (out sh : List Int) (i : Nat) : List Int := (List.range out.length).map fun j => if j < i then min2 (out.getD j 0) (sh.getD j 0) else out.getD j 0
def zipMin (out sh : List Int) : List Int := minTo out sh out.length
theorem minTo_len (out sh : List Int) (i : Nat) : (minTo out sh i).length = out.length := by simp [minTo]
theorem minTo_zero (out sh : List Int) : minTo out sh 0 = out := by
  apply List.ext_getElem (by simp [minTo])
  intro j h1 h2
  simp [minTo, List.getD, h2]
theorem minTo_at (out sh : List Int) (i : Nat) (h : i < (minTo out sh i).length) : (minTo out sh i)[i] = out.getD i 0 := by simp [minTo]
theorem minTo_succ (out sh : List Int) (i : Nat) (hi : i < out.length) : (minTo out sh i).set i (min2 (out.getD i 0) (sh.getD i 0)) = minTo out sh (i + 1) := by
  apply List.ext_getElem (by simp [minTo])
  intro j h1 h2
  rw [List.getElem_set]
  by_cases hij : i = j
  · subst hij
    simp [minTo]
  · rw [if_neg hij]
    simp only [minTo, List.getElem_map, List.getElem_range]
    have e : (j < i) = (j < i + 1) := by simp; omega
    simp only [e]
theorem zipMin_len (out sh : List Int) : (zipMin out sh).length = out.length := minTo_len _ _ _
theorem zipMin_twice (out sh : List Int) : zipMin (zipMin out sh) sh = zipMin out sh := by
  apply List.ext_getElem (by simp [zipMin, minTo])
  intro j h1 h2
  have hj : j < out.length := by simpa [zipMin, minTo] using h2
  simp only [zipMin, minTo, List.getElem_map, List.getElem_range, List.length_map, List.length_range, hj, if_true, List.getD_eq_getElem?_getD, List.getElem?_map, List.getElem?_range hj, Option.map_some, Option.getD_some]
  unfold min2
  split <;> (try split) <;> omega
theorem zipMin_self (out : List Int) : zipMin out out = out := by
  apply List.ext_getElem (by simp [zipMin, minTo])
  intro j h1 h2
  simp [zipMin, minTo, List.getD, h2, min2]

theorem coins_len : ∀ (n : Nat) (out rest : List Int), (coins n out rest).length = out.length
  | 0, _, _ => rfl
  | n + 1, out, rest => by rw [coins, coins_len n]; simp
theorem shareL_len (ds : List Int) (sum : Int) : (shareL ds sum).length = ds.length := by
  unfold shareL
  split
  · simp
  · rw [coins_len]; simp
def leastG (l : Led) (sum : Int) (out : List Int) (cs : List Cn) : List Int := cs.foldl (fun o c => zipMin o (shareL (dues l c) sum)) out
def leastM (l : Led) (sum : Int) : List Cn → List Int
  | [] => []
  | c :: cs => leastG l sum (shareL (dues l c) sum) cs
theorem leastM_eq (l : Led) (sum : Int) : ∀ (ts : List Cn) (h : 0 < ts.length), leastM l sum ts = leastG l sum (shareL (dues l ts[0]) sum) (ts.drop 1)
  | c :: cs, _ => rfl
def leastL (l : Led) (sum : Int) : List Int := if askErr l (inB sum 0 9999) = 0 then leastM l sum (truthsL l) else []
/-- Two counts at work with the same cells. -/
def same5 (c d : Cn) : Prop := c.r = d.r ∧ c.b 0 = d.b 0 ∧ c.b 1 = d.b 1 ∧ c.b 2 = d.b 2 ∧ c.b 3 = d.b 3
theorem dues_same {l : Led} (hn : l.gs.length ≤ 4) {c d : Cn} (h : same5 c d) : dues l c = dues l d := by
  obtain ⟨h0, h1, h2, h3, h4⟩ := h
  unfold dues
  apply List.map_congr_left
  intro k hk
  rw [List.mem_range] at hk
  unfold owed
  rw [h0]
  match k, hk with
  | 0, _ => rw [h1]
  | 1, _ => rw [h2]
  | 2, _ => rw [h3]
  | 3, _ => rw [h4]
  | k + 4, hk => omega
theorem askErr_zero' {l : Led} {fine : Bool} (h : askErr l fine = 0) : fault l = 0 ∧ fine = true ∧ truthsL l ≠ [] := by
  cases fine
  · unfold askErr at h
    split at h
    · simp at h
    · rename_i hf; exact absurd h hf
  · have := askErr_zero h
    exact ⟨this.1, rfl, this.2⟩

theorem und126 : Try.prog.underlying 126 = some (.array 4 3) := by kernel_rfl
theorem eq126 (a0 a1 a2 a3 b0 b1 b2 b3 : Int) (w : World) : (Op.equalIn 10000 126 (.agg #[.int .i64 a0, .int .i64 a1, .int .i64 a2, .int .i64 a3]) (.agg #[.int .i64 b0, .int .i64 b1, .int .i64 b2, .int .i64 b3])).run Try.prog w = .ok (a0 == b0 && (a1 == b1 && (a2 == b2 && a3 == b3))) w := by
  have h1 : ∀ d (x y : Int) w, (Op.equalIn (d + 1) 3 (.int .i64 x) (.int .i64 y)).run Try.prog w = .ok (x == y) w := fun d x y w => by
    conv => lhs; unfold Op.equalIn
    simp [run_underlying und3, Result.andThen]
  conv => lhs; unfold Op.equalIn
  simp [run_underlying und126, Result.andThen]
  have h9 : ∀ (x y : Int) w, (Op.equalIn 9999 3 (.int .i64 x) (.int .i64 y)).run Try.prog w = .ok (x == y) w := h1 9998
  have hp : ∀ (x0 x1 x2 x3 : Int) w, (part 3 #[.int .i64 x0, .int .i64 x1, .int .i64 x2, .int .i64 x3] 0).run Try.prog w = .ok (.int .i64 x0) w ∧ (part 3 #[.int .i64 x0, .int .i64 x1, .int .i64 x2, .int .i64 x3] 1).run Try.prog w = .ok (.int .i64 x1) w ∧ (part 3 #[.int .i64 x0, .int .i64 x1, .int .i64 x2, .int .i64 x3] 2).run Try.prog w = .ok (.int .i64 x2) w ∧ (part 3 #[.int .i64 x0, .int .i64 x1, .int .i64 x2, .int .i64 x3] 3).run Try.prog w = .ok (.int .i64 x3) w := fun _ _ _ _ _ => ⟨rfl, rfl, rfl, rfl⟩
  obtain ⟨p0, p1, p2, p3⟩ := hp a0 a1 a2 a3 w
  obtain ⟨r0, r1, r2, r3⟩ := hp b0 b1 b2 b3 w
  simp only [List.range', Nat.zero_add, Nat.reduceAdd, List.forIn_cons, List.forIn_nil]
  cases e0 : (a0 == b0) <;> cases e1 : (a1 == b1) <;> cases e2 : (a2 == b2) <;> cases e3 : (a3 == b3) <;> simp [p0, p1, p2, p3, r0, r1, r2, r3, h9, Result.andThen, e0, e1, e2, e3]

theorem grownBy_set (W : World) (p : Addr) (v : Value) : W.grownBy (W.setCell p v) (some p.block) := ⟨rfl, rfl, rfl, by simp [World.setCell], fun i _ h => Below.heap_setCell W p v i (fun e => h (by rw [e]))⟩
/-- Five cells of a block are written. -/
theorem set5 {w8 w9 : World} {L : Nat} {v0 v1 v2 v3 v4 : Value} (h : ((((w8.setCell ⟨L, 0, none⟩ v0).setCell ⟨L, 1, none⟩ v1).setCell ⟨L, 2, none⟩ v2).setCell ⟨L, 3, none⟩ v3).setCell ⟨L, 4, none⟩ v4 = w9) :
    (∀ n, n ≤ L → Below n w8 w9) ∧ (∀ k, k ≠ L → w9.heap[k]? = w8.heap[k]?) ∧ (∀ t a b c d e, Blk w8 L t #[a, b, c, d, e] → Blk w9 L t #[v0, v1, v2, v3, v4]) := by
  subst h
  refine ⟨fun n hn => (((((Below.refl n w8).setCell (by simpa using hn) _).setCell (by simpa using hn) _).setCell (by simpa using hn) _).setCell (by simpa using hn) _).setCell (by simpa using hn) _, fun k hk => ?_, fun t a b c d e hb => ((((hb.set 0 v0).set 1 v1).set 2 v2).set 3 v3).set 4 v4⟩
  rw [Below.heap_setCell _ _ _ k (by simpa using hk), Below.heap_setCell _ _ _ k (by simpa using hk), Below.heap_setCell _ _ _ k (by simpa using hk), Below.heap_setCell _ _ _ k (by simpa using hk), Below.heap_setCell _ _ _ k (by simpa using hk)]

set_option maxHeartbeats 8000000 in
theorem Least_c (l : Led) (A C : Option Addr) (cA cC : Nat) (sum : Int) (w : World) (hL : LedR w l A C) (hg : l.gs.length ≤ 30) (hc : l.cs.length ≤ 30) :
    Calls Try.prog 34 #[ledV l A C cA cC, .int .i64 sum] w fun e w' => (∃ v, e = .returned (.tuple #[v, .int .i64 (askErr l (inB sum 0 9999))]) ∧ OwnI w.heap.size w' v (leastL l sum)) ∧ G w w' := by
  have HA := Lib.hid (fun w1 (hb : G w w1) => asked_c l A C cA cC (inB sum 0 9999) w1 (hL.grow hb) hg hc)
  have HN : Hid (askErr l (inB sum 0 9999) ≠ 0 → leastL l sum = []) := fun h => by unfold leastL; rw [if_neg h]
  have HY : Hid (askErr l (inB sum 0 9999) = 0 → ∀ (h : 0 < (truthsL l).length), leastL l sum = leastG l sum (shareL (dues l (truthsL l)[0]) sum) ((truthsL l).drop 1)) := fun h h0 => by
    unfold leastL
    rw [if_pos h]
    exact leastM_eq l sum _ h0
  have HZ : Hid (askErr l (inB sum 0 9999) = 0 → (fault l = 0 ∧ inB sum 0 9999 = true ∧ truthsL l ≠ [])) := askErr_zero'
  have HIN : Hid (inB sum 0 9999 = true → 0 ≤ sum ∧ sum ≤ 9999) := fun h => inB_iff.1 h
  generalize hfi : inB sum 0 9999 = fine at *
  have HFI := Lib.hid hfi
  clear hfi
  go_enter Try.func34, Try.ntmps34
  go_wp2_with fail
  have hB : G w (w.alloc (.cells #[.int .i64 l.lo, .int .i64 l.hi, .slice A l.gs.length cA, .slice C l.cs.length cC] 38)) := (G.refl _).alloc _
  have q0 : Blk (w.alloc (.cells #[.int .i64 l.lo, .int .i64 l.hi, .slice A l.gs.length cA, .slice C l.cs.length cC] 38)) w.heap.size 38 #[.int .i64 l.lo, .int .i64 l.hi, .slice A l.gs.length cA, .slice C l.cs.length cC] := Blk.new _ _ _
  generalize w.alloc _ = W at *
  refine wp_region_T (fun w' : World => w'.cell? ⟨w.heap.size, 0, none⟩ = some (.int .i64 l.lo) ∧ w'.cell? ⟨w.heap.size, 1, none⟩ = some (.int .i64 l.hi) ∧ w'.cell? ⟨w.heap.size, 2, none⟩ = some (.slice A l.gs.length cA) ∧ w'.cell? ⟨w.heap.size, 3, none⟩ = some (.slice C l.cs.length cC)) 8 (by kernel_rfl) ?_
  obtain ⟨z, hz5⟩ : ∃ z : World, z = { W with drawn := W.drawn + 1 } := ⟨_, rfl⟩
  rw [← hz5]
  have gz : G W z := by rw [hz5]; exact (G.refl _).drew
  clear hz5
  have hsh : ∀ {v : World}, G z v → (fun w' : World => w'.cell? ⟨w.heap.size, 0, none⟩ = some (.int .i64 l.lo) ∧ w'.cell? ⟨w.heap.size, 1, none⟩ = some (.int .i64 l.hi) ∧ w'.cell? ⟨w.heap.size, 2, none⟩ = some (.slice A l.gs.length cA) ∧ w'.cell? ⟨w.heap.size, 3, none⟩ = some (.slice C l.cs.length cC)) v := fun {v} h => ⟨(gz.trans h).cell (q0.cell 0 rfl), (gz.trans h).cell (q0.cell 1 rfl), (gz.trans h).cell (q0.cell 2 rfl), (gz.trans h).cell (q0.cell 3 rfl)⟩
  have HS := hsh (G.refl z)
  refine wpAnyT_take (i := 0) (v := .agg #[.int .i64 l.lo, .int .i64 l.hi, .slice A l.gs.length cA, .slice C l.cs.length cC]) (by decide) rfl (by kernel_rfl) (by kernel_rfl) (by kernel_rfl) (by kernel_rfl) (fun _ _ _ h => h) HS (Or.inl ⟨by rfl, ?_⟩) ?_
  · rintro w ⟨s0, s1, s2, s3⟩
    go_simp
  simp only [Act.put, List.setIfInBounds_toArray, List.set_cons_succ, List.set_cons_zero]
  refine wpAnyT_take (i := 1) (v := .int .i64 sum) (by decide) rfl (by kernel_rfl) (by kernel_rfl) (by kernel_rfl) (by kernel_rfl) (fun _ _ _ h => h) HS (Or.inl ⟨by rfl, ?_⟩) ?_
  · rintro w ⟨s0, s1, s2, s3⟩
    go_simp
  simp only [Act.put, List.setIfInBounds_toArray, List.set_cons_succ, List.set_cons_zero]
  refine wpAnyT_one (i := 2) (by kernel_rfl) rfl ?_
  go_wp2_with fail
  refine (within_c sum 0 9999 z).mono ?_
  rintro e w2 ⟨rfl, rfl⟩
  rw [HFI.out]
  go_wp2_with fail
  refine ⟨HS, ?_⟩
  refine wpAnyT_one (i := 3) (by kernel_rfl) rfl ?_
  go_wp2_with fail
  have hB2 := hB.trans gz
  refine (HA.out _ hB2).mono ?_
  rintro e w1 ⟨hb1, he⟩
  obtain ⟨p, E, rfl, hpE⟩ : ∃ p E, e = .returned (.tuple #[p, .int .i64 E]) ∧ (E = askErr l fine ∧ (E ≠ 0 ∨ E = 0 ∧ ∃ B, p = ptr B ∧ Asked l A C cA cC z.heap.size B w1)) := by
    rcases he with ⟨h1, h2⟩ | ⟨h1, B, h2, h3⟩
    · exact ⟨_, _, h2, rfl, .inl h1⟩
    · exact ⟨_, _, h2, h1.symm, .inr ⟨rfl, B, rfl, h3⟩⟩
  clear he
  have HPE := Lib.hid hpE
  clear hpE
  go_wp2_with fail
  refine ⟨hsh hb1, ?_⟩
  clear HS
  have HS := hsh hb1
  refine wpAnyT_take (i := 4) (v := .tuple #[p, .int .i64 E]) (by decide) rfl (by kernel_rfl) (by kernel_rfl) (by kernel_rfl) (by kernel_rfl) (fun _ _ _ h => h) HS (Or.inl ⟨by rfl, ?_⟩) ?_
  · rintro w ⟨s0, s1, s2, s3⟩
    go_simp
  simp only [Act.put, List.setIfInBounds_toArray, List.set_cons_succ, List.set_cons_zero]
  refine wpAnyT_take (i := 5) (v := p) (by decide) rfl (by kernel_rfl) (by kernel_rfl) (by kernel_rfl) (by kernel_rfl) (fun _ _ _ h => h) HS (Or.inl ⟨by rfl, ?_⟩) ?_
  · rintro w ⟨s0, s1, s2, s3⟩
    go_simp
  simp only [Act.put, List.setIfInBounds_toArray, List.set_cons_succ, List.set_cons_zero]
  refine wpAnyT_take (i := 6) (v := .int .i64 E) (by decide) rfl (by kernel_rfl) (by kernel_rfl) (by kernel_rfl) (by kernel_rfl) (fun _ _ _ h => h) HS (Or.inl ⟨by rfl, ?_⟩) ?_
  · rintro w ⟨s0, s1, s2, s3⟩
    go_simp
  simp only [Act.put, List.setIfInBounds_toArray, List.set_cons_succ, List.set_cons_zero]
  refine wpAnyT_take (i := 7) (v := p) (by decide) rfl (by kernel_rfl) (by kernel_rfl) (by kernel_rfl) (by kernel_rfl) (fun _ _ _ h => h) HS (Or.inl ⟨by rfl, ?_⟩) ?_
  · rintro w ⟨s0, s1, s2, s3⟩
    go_simp
  simp only [Act.put, List.setIfInBounds_toArray, List.set_cons_succ, List.set_cons_zero]
  refine wpAnyT_drop (k := 8) (by decide) rfl (by kernel_rfl) ?_
  simp only [List.drop_succ_cons, List.drop_zero]
  have hBB := hB2.trans hb1
  have q1 := (q0.grow gz).grow hb1
  obtain ⟨hE, hE0 | ⟨rfl, B, rfl, hA⟩⟩ := HPE.out
  · have HEE := Lib.hid hE
    have HNN := Lib.hid (HN.out (by rw [← hE]; exact hE0))
    clear hE HN HY HZ HPE
    go_wp2_with fail
    go_ret2
    exact ⟨⟨.slice none 0 0, by simp [HEE.out], by rw [HNN.out]; exact OwnI.nil _ _⟩, hBB⟩
  · obtain ⟨hf, hfin, hne⟩ := HZ.out hE.symm
    have hV := valid_of hf
    obtain ⟨hs0, hs1⟩ := HIN.out hfin
    have hp : 0 < (truthsL l).length := List.length_pos_iff.2 hne
    have HYY := Lib.hid (HY.out hE.symm hp)
    have HEE := Lib.hid hE
    obtain ⟨At, ct, mv, hbk, hT, hcap⟩ := hA.view
    obtain ⟨bt, offt, rfl, t0, t1, t2, t3, t4⟩ := hT.at hp
    simp only [Nat.zero_mul, Nat.add_zero] at t0 t1 t2 t3 t4
    have HT := Lib.hid hT
    have hp' : (0 : Int) < (truthsL l).length := by omega
    have hlen := truths_len hV
    have HM := Lib.hid (fun c (hc : c ∈ truthsL l) => truth_ok hV hc)
    have HK0 := Lib.hid (HM.out _ (List.getElem_mem hp))
    clear hE HN HY HZ HPE hf hfin hne hT HS
    generalize hc0 : (truthsL l)[0] = c0 at *
    generalize hts : truthsL l = ts at *
    have HC0 : Hid (∀ h : 0 < ts.length, ts[0] = c0) := by subst hts; exact fun _ => hc0
    have hbk4 := hbk.cell 4 (v := .slice (some ⟨bt, offt, none⟩) ts.length ct) rfl
    clear hc0
    go_wp2_with fail
    have d0 := q1.cell 0 (v := .int .i64 l.lo) rfl
    have d1 := q1.cell 1 (v := .int .i64 l.hi) rfl
    have d2 := q1.cell 2 (v := .slice A l.gs.length cA) rfl
    have d3 := q1.cell 3 (v := .slice C l.cs.length cC) rfl
    refine wp_region_T (fun w' : World => w'.cell? ⟨w.heap.size, 0, none⟩ = some (.int .i64 l.lo) ∧ w'.cell? ⟨w.heap.size, 1, none⟩ = some (.int .i64 l.hi) ∧ w'.cell? ⟨w.heap.size, 2, none⟩ = some (.slice A l.gs.length cA) ∧ w'.cell? ⟨w.heap.size, 3, none⟩ = some (.slice C l.cs.length cC) ∧ w'.cell? ⟨B, 4, none⟩ = some (.slice (some ⟨bt, offt, none⟩) ts.length ct) ∧ w'.cell? ⟨bt, offt, none⟩ = some (.int .i64 c0.r) ∧ w'.cell? ⟨bt, offt + 1, none⟩ = some (.int .i64 (c0.b 0)) ∧ w'.cell? ⟨bt, offt + 2, none⟩ = some (.int .i64 (c0.b 1)) ∧ w'.cell? ⟨bt, offt + 3, none⟩ = some (.int .i64 (c0.b 2)) ∧ w'.cell? ⟨bt, offt + 4, none⟩ = some (.int .i64 (c0.b 3))) 10 (by kernel_rfl) ?_
    obtain ⟨y, hy5⟩ : ∃ y : World, y = { w1 with drawn := w1.drawn + 1 } := ⟨_, rfl⟩
    rw [← hy5]
    have gy : G w1 y := by rw [hy5]; exact (G.refl _).drew
    clear hy5
    have hsh2 : ∀ {v : World}, G y v → (fun w' : World => w'.cell? ⟨w.heap.size, 0, none⟩ = some (.int .i64 l.lo) ∧ w'.cell? ⟨w.heap.size, 1, none⟩ = some (.int .i64 l.hi) ∧ w'.cell? ⟨w.heap.size, 2, none⟩ = some (.slice A l.gs.length cA) ∧ w'.cell? ⟨w.heap.size, 3, none⟩ = some (.slice C l.cs.length cC) ∧ w'.cell? ⟨B, 4, none⟩ = some (.slice (some ⟨bt, offt, none⟩) ts.length ct) ∧ w'.cell? ⟨bt, offt, none⟩ = some (.int .i64 c0.r) ∧ w'.cell? ⟨bt, offt + 1, none⟩ = some (.int .i64 (c0.b 0)) ∧ w'.cell? ⟨bt, offt + 2, none⟩ = some (.int .i64 (c0.b 1)) ∧ w'.cell? ⟨bt, offt + 3, none⟩ = some (.int .i64 (c0.b 2)) ∧ w'.cell? ⟨bt, offt + 4, none⟩ = some (.int .i64 (c0.b 3))) v := fun {v} h => ⟨(gy.trans h).cell d0, (gy.trans h).cell d1, (gy.trans h).cell d2, (gy.trans h).cell d3, (gy.trans h).cell hbk4, (gy.trans h).cell t0, (gy.trans h).cell t1, (gy.trans h).cell t2, (gy.trans h).cell t3, (gy.trans h).cell t4⟩
    have HS := hsh2 (G.refl y)
    refine wpAnyT_take (i := 0) (v := .agg #[.int .i64 l.lo, .int .i64 l.hi, .slice A l.gs.length cA, .slice C l.cs.length cC]) (by decide) rfl (by kernel_rfl) (by kernel_rfl) (by kernel_rfl) (by kernel_rfl) (fun _ _ _ h => h) HS (Or.inl ⟨by rfl, ?_⟩) ?_
    · rintro w ⟨s0, s1, s2, s3, s4, s5, s6, s7, s8, s9⟩
      go_simp
    simp only [Act.put, List.setIfInBounds_toArray, List.set_cons_succ, List.set_cons_zero]
    refine wpAnyT_take (i := 1) (v := ptr B) (by decide) rfl (by kernel_rfl) (by kernel_rfl) (by kernel_rfl) (by kernel_rfl) (fun _ _ _ h => h) HS (Or.inl ⟨by rfl, ?_⟩) ?_
    · rintro w ⟨s0, s1, s2, s3, s4, s5, s6, s7, s8, s9⟩
      go_simp
    simp only [Act.put, List.setIfInBounds_toArray, List.set_cons_succ, List.set_cons_zero]
    refine wpAnyT_take (i := 2) (v := ptr B) (by decide) rfl (by kernel_rfl) (by kernel_rfl) (by kernel_rfl) (by kernel_rfl) (fun _ _ _ h => h) HS (Or.inl ⟨by rfl, ?_⟩) ?_
    · rintro w ⟨s0, s1, s2, s3, s4, s5, s6, s7, s8, s9⟩
      go_simp
    simp only [Act.put, List.setIfInBounds_toArray, List.set_cons_succ, List.set_cons_zero]
    refine wpAnyT_take (i := 3) (v := .pointer (some ⟨B, 4, none⟩)) (by decide) rfl (by kernel_rfl) (by kernel_rfl) (by kernel_rfl) (by kernel_rfl) (fun _ _ _ h => h) HS (Or.inl ⟨by rfl, ?_⟩) ?_
    · rintro w ⟨s0, s1, s2, s3, s4, s5, s6, s7, s8, s9⟩
      go_simp
    simp only [Act.put, List.setIfInBounds_toArray, List.set_cons_succ, List.set_cons_zero]
    refine wpAnyT_take (i := 4) (v := .slice (some ⟨bt, offt, none⟩) ts.length ct) (by decide) rfl (by kernel_rfl) (by kernel_rfl) (by kernel_rfl) (by kernel_rfl) (fun _ _ _ h => h) HS (Or.inl ⟨by rfl, ?_⟩) ?_
    · rintro w ⟨s0, s1, s2, s3, s4, s5, s6, s7, s8, s9⟩
      go_simp
    simp only [Act.put, List.setIfInBounds_toArray, List.set_cons_succ, List.set_cons_zero]
    refine wpAnyT_take (i := 5) (v := .pointer (some ⟨bt, offt, none⟩)) (by decide) rfl (by kernel_rfl) (by kernel_rfl) (by kernel_rfl) (by kernel_rfl) (fun _ _ _ h => h) HS (Or.inl ⟨by rfl, ?_⟩) ?_
    · rintro w ⟨s0, s1, s2, s3, s4, s5, s6, s7, s8, s9⟩
      go_simp
    simp only [Act.put, List.setIfInBounds_toArray, List.set_cons_succ, List.set_cons_zero]
    refine wpAnyT_take (i := 6) (v := cntV c0) (by decide) rfl (by kernel_rfl) (by kernel_rfl) (by kernel_rfl) (by kernel_rfl) (fun _ _ _ h => h) HS (Or.inl ⟨by rfl, ?_⟩) ?_
    · rintro w ⟨s0, s1, s2, s3, s4, s5, s6, s7, s8, s9⟩
      go_simp
    simp only [Act.put, List.setIfInBounds_toArray, List.set_cons_succ, List.set_cons_zero]
    refine wpAnyT_take (i := 8) (v := .int .i64 sum) (by decide) rfl (by kernel_rfl) (by kernel_rfl) (by kernel_rfl) (by kernel_rfl) (fun _ _ _ h => h) HS (Or.inl ⟨by rfl, ?_⟩) ?_
    · rintro w ⟨s0, s1, s2, s3, s4, s5, s6, s7, s8, s9⟩
      go_simp
    simp only [Act.put, List.setIfInBounds_toArray, List.set_cons_succ, List.set_cons_zero]
    refine wpAnyT_one (i := 7) (by kernel_rfl) rfl ?_
    go_wp2_with fail
    have hGy := hL.g.grow (hBB.trans gy)
    refine (dues_c l A C cA cC c0 y hV HK0.out hGy).mono ?_
    rintro e w5 ⟨⟨v, rfl, hO⟩, hb5⟩
    obtain ⟨A5, c5, rfl, hl5, hR5⟩ := hO.row
    go_wp2_with fail
    refine ⟨hsh2 hb5, ?_⟩
    refine wpAnyT_one (i := 9) (by kernel_rfl) rfl ?_
    go_wp2_with fail
    refine (share_c A5 c5 (dues l c0) sum w5 hR5 (by rw [dues_len]; exact hV.ng) (dues_bd hV HK0.out) hs0 (by omega)).mono ?_
    rintro e w6 ⟨⟨v, rfl, hO6⟩, hb6⟩
    obtain ⟨A6, c6, rfl, -, -⟩ := hO6.row
    go_wp2_with fail
    refine ⟨hsh2 (hb5.trans hb6), ?_⟩
    have g16 := gy.trans (hb5.trans hb6)
    have t06 := g16.cell t0
    have t16 := g16.cell t1
    have t26 := g16.cell t2
    have t36 := g16.cell t3
    have t46 := g16.cell t4
    have hbk6 := g16.cell hbk4
    have q6 := q1.grow g16
    have HO6 := Lib.hid hO6
    have hlw := q1.lt
    have hbt : bt < w5.heap.size := Nat.lt_of_lt_of_le (cell_lt t0) (gy.trans hb5).size
    have hlw5 : w.heap.size < w5.heap.size := Nat.lt_of_lt_of_le hlw (gy.trans hb5).size
    clear t0 t1 t2 t3 t4 hbk4 d0 d1 d2 d3 HS hO6 hO hR5 hl5
    refine wpAnyT_drop (k := 10) (by decide) rfl (by kernel_rfl) ?_
    simp only [List.drop_succ_cons, List.drop_zero]
    go_upto_region 6 with fail
    generalize hW : w6.alloc _ = W7
    have g7 : G w6 W7 := by rw [← hW]; exact (G.refl _).alloc _
    have l0 : Blk W7 w6.heap.size 128 #[.int .i64 c0.r, .int .i64 (c0.b 0), .int .i64 (c0.b 1), .int .i64 (c0.b 2), .int .i64 (c0.b 3)] := by rw [← hW]; exact Blk.new _ _ _
    clear hW
    have hbk7 := g7.cell hbk6
    have hrow1 : ∀ A2, (ct = 1 ∧ ts.drop 1 = [] ∨ A2 = some ⟨bt, offt + 5, none⟩) → RowT W7 A2 (ts.drop 1) := by
      rintro A2 (⟨-, h⟩ | rfl)
      · rw [h]; intro j c hj; simp at hj
      · intro j c hj
        obtain ⟨b, off, e, h0, h1, h2, h3, h4⟩ := (HT.out.grow (g16.trans g7)) (1 + j) c (by rw [List.getElem?_drop] at hj; exact hj)
        cases e
        refine ⟨bt, offt + 5, rfl, ?_, ?_, ?_, ?_, ?_⟩
        · rw [show offt + 5 + j * 5 = offt + (1 + j) * 5 by omega]; exact h0
        · rw [show offt + 5 + j * 5 + 1 = offt + (1 + j) * 5 + 1 by omega]; exact h1
        · rw [show offt + 5 + j * 5 + 2 = offt + (1 + j) * 5 + 2 by omega]; exact h2
        · rw [show offt + 5 + j * 5 + 3 = offt + (1 + j) * 5 + 3 by omega]; exact h3
        · rw [show offt + 5 + j * 5 + 4 = offt + (1 + j) * 5 + 4 by omega]; exact h4
    have hmem : Hid (∀ c ∈ ts.drop 1, CntOk l c) := fun c hc => HM.out c (List.mem_of_mem_drop hc)
    have hdl : (ts.drop 1).length = ts.length - 1 := by simp
    have L0 := Lib.hid l0
    have hG7 := Lib.hid (hGy.grow ((hb5.trans hb6).trans g7))
    have q7 := Lib.hid (q6.grow g7)
    have gW7 : G w W7 := (hBB.trans g16).trans g7
    have hz57 : w5.heap.size ≤ w6.heap.size := hb6.size
    have HSL := Lib.hid (shareL_len (dues l c0) sum)
    have hw5 : w.heap.size < w5.heap.size := by have := (gy.trans hb5).size; omega
    have hct : (ct = 1 ∧ ts.drop 1 = []) ∨ 1 < ct := by
      rcases Nat.lt_or_ge 1 ct with h | h
      · exact .inr h
      · exact .inl ⟨by omega, List.drop_eq_nil_of_le (by omega)⟩
    have HR1 := Lib.hid hrow1
    clear hrow1 l0 hc q6 t06 t16 t26 t36 t46 hbk6 q0 q1 gz
    rcases hct with ⟨rfl, hd1⟩ | hct
    · have HD1 := Lib.hid hd1
      clear hd1 HR1 hdl
      have hl1 : ts.length = 1 := by omega
      go_wp2_with fail
      go_loopw [46] (fun v46 wr => v46 = .int .i64 0 ∧ wr = W7) (fun _ _ => 0)
      case atStart => exact ⟨rfl, rfl⟩
      case round =>
        obtain ⟨rfl, rfl⟩ := hrel
        go_wp2_with fail
        go_ret2
        have ho := HO6.out.grow g7
        have hy := HYY.out
        rw [HD1.out] at hy
        have hy2 : leastL l sum = shareL (dues l c0) sum := hy
        rw [← hy2] at ho
        exact ⟨⟨_, by simp [← HEE.out, hy2], OwnI.lower ho (by omega)⟩, gW7⟩
    · have HR2 := Lib.hid (HR1.out (some ⟨bt, offt + 5, none⟩) (.inr rfl))
      clear HR1
      go_wp2_with fail
      rw [← hdl]
      generalize hrs : ts.drop 1 = rs at *
      have HRS := Lib.hid hrs
      have hrl : rs.length ≤ 400000 := by rw [← hrs]; simp; omega
      clear hrs hdl
      go_loopw [46] (fun v46 wr => ∃ (k : Nat) (out : List Int) (pr : Cn), k ≤ rs.length ∧ v46 = .int .i64 k ∧ Hid (leastG l sum out (rs.drop k) = leastG l sum (shareL (dues l c0) sum) rs) ∧ Hid (OwnI w5.heap.size wr (.slice A6 (shareL (dues l c0) sum).length c6) out) ∧ Hid (out.length = l.gs.length) ∧ Hid (zipMin out (shareL (dues l pr) sum) = out) ∧ Hid (Blk wr w6.heap.size 128 #[.int .i64 pr.r, .int .i64 (pr.b 0), .int .i64 (pr.b 1), .int .i64 (pr.b 2), .int .i64 (pr.b 3)]) ∧ Below w5.heap.size W7 wr) (fun v46 _ => rs.length - (intOf v46).toNat)
      case atStart => exact ⟨0, _, c0, by omega, rfl, rfl, HO6.out.grow g7, by rw [Hid, HSL.out, dues_len], zipMin_self _, L0.out, Below.refl _ _⟩
      case round =>
        obtain ⟨k, out, pr, hk, rfl, HF, HO, HL2, HZM, HP, hbw⟩ := hrel
        have gWr : G w wr := Below.trans gW7 (hbw.mono (by omega))
        by_cases hlt : k < rs.length
        · obtain ⟨b2, off2, e, k0, k1, k2, k3, k4⟩ := HR2.out.at hlt
          cases e
          have hck := Lib.hid (hmem.out rs[k] (List.getElem_mem hlt))
          have HD := Lib.hid (List.drop_eq_getElem_cons hlt)
          have hlt' : (k : Int) < rs.length := by omega
          generalize rs[k] = ck at *
          have m0 := (hbw.cell (p := ⟨bt, offt + 5 + k * 5, none⟩) hbt).trans k0
          have m1 := (hbw.cell (p := ⟨bt, offt + 5 + k * 5 + 1, none⟩) hbt).trans k1
          have m2 := (hbw.cell (p := ⟨bt, offt + 5 + k * 5 + 2, none⟩) hbt).trans k2
          have m3 := (hbw.cell (p := ⟨bt, offt + 5 + k * 5 + 3, none⟩) hbt).trans k3
          have m4 := (hbw.cell (p := ⟨bt, offt + 5 + k * 5 + 4, none⟩) hbt).trans k4
          clear k0 k1 k2 k3 k4
          go_upto_region 9 with fail
          generalize hW : wr.alloc _ = w8
          have g8 : G wr w8 := by rw [← hW]; exact (G.refl _).alloc _
          have x0 : Blk w8 wr.heap.size 128 #[.int .i64 ck.r, .int .i64 (ck.b 0), .int .i64 (ck.b 1), .int .i64 (ck.b 2), .int .i64 (ck.b 3)] := by rw [← hW]; exact Blk.new _ _ _
          clear hW m0 m1 m2 m3 m4
          have HP8 := Lib.hid (HP.out.grow g8)
          have X0 := Lib.hid x0
          have y0 := x0.cell 0 (v := .int .i64 ck.r) rfl
          have y1 := x0.cell 1 (v := .int .i64 (ck.b 0)) rfl
          have y2 := x0.cell 2 (v := .int .i64 (ck.b 1)) rfl
          have y3 := x0.cell 3 (v := .int .i64 (ck.b 2)) rfl
          have y4 := x0.cell 4 (v := .int .i64 (ck.b 3)) rfl
          have z0 := HP8.out.cell 0 (v := .int .i64 pr.r) rfl
          have z1 := HP8.out.cell 1 (v := .int .i64 (pr.b 0)) rfl
          have z2 := HP8.out.cell 2 (v := .int .i64 (pr.b 1)) rfl
          have z3 := HP8.out.cell 3 (v := .int .i64 (pr.b 2)) rfl
          have z4 := HP8.out.cell 4 (v := .int .i64 (pr.b 3)) rfl
          clear x0
          have hq := eq126 (ck.b 0) (ck.b 1) (ck.b 2) (ck.b 3) (pr.b 0) (pr.b 1) (pr.b 2) (pr.b 3) w8
          by_cases hsm : ck.r = pr.r ∧ (ck.b 0 == pr.b 0 && (ck.b 1 == pr.b 1 && (ck.b 2 == pr.b 2 && ck.b 3 == pr.b 3))) = true
          · rw [hsm.2] at hq
            rw [hsm.1] at y0
            have hsame : same5 ck pr := by
              have h2 := hsm.2
              simp only [Bool.and_eq_true, beq_iff_eq] at h2
              exact ⟨hsm.1, h2.1, h2.2.1, h2.2.2.1, h2.2.2.2⟩
            have HDS := Lib.hid (dues_same hV.ng hsame)
            clear hsm hsame
            go_wp2_with fail
            go_roundw
            case rel =>
              refine ⟨k + 1, out, pr, by omega, by go_num, ?_, HO.out.grow g8, HL2.out, HZM.out, HP8.out, Below.trans hbw (g8.mono (by have := hbw.size; have := g7.size; omega))⟩
              have h := HF.out
              rw [HD.out] at h
              have h2 : leastG l sum (zipMin out (shareL (dues l ck) sum)) (rs.drop (k + 1)) = leastG l sum (shareL (dues l c0) sum) rs := h
              rw [HDS.out, HZM.out] at h2
              exact h2
            case measure => simp [intOf]; omega
          · have hcase : (ck.r = pr.r ∧ (ck.b 0 == pr.b 0 && (ck.b 1 == pr.b 1 && (ck.b 2 == pr.b 2 && ck.b 3 == pr.b 3))) = false) ∨ ck.r ≠ pr.r := by
              by_cases h : ck.r = pr.r
              · exact .inl ⟨h, by simpa [h] using hsm⟩
              · exact .inr h
            clear hsm
            have zf0 := HP8.out.frozen 0
            have zf1 := HP8.out.frozen 1
            have zf2 := HP8.out.frozen 2
            have zf3 := HP8.out.frozen 3
            have zf4 := HP8.out.frozen 4
            have HCS := Lib.hid hcase
            clear hcase
            rcases HCS.out with ⟨hr0, he0⟩ | hr0
            · rw [he0] at hq
              rw [← hr0] at z0
              clear he0 hr0
              go_upto_region 11 with fail
              generalize hW9 : ((((World.setCell _ _ _).setCell _ _).setCell _ _).setCell _ _).setCell _ _ = w9
              obtain ⟨hlow9, hfar9, hset9⟩ := set5 hW9
              clear hW9
              have hp9 := hset9 _ _ _ _ _ _ HP8.out
              have hA6 := own_lt HO6.out
              have hbk : Below w5.heap.size W7 w9 := Below.trans (Below.trans hbw (g8.mono (by have := hbw.size; have := g7.size; omega))) (hlow9 _ hz57)
              have gW9 : G w w9 := Below.trans gW7 (hbk.mono (by omega))
              have HO9 : Hid (OwnI w5.heap.size w9 (.slice A6 (shareL (dues l c0) sum).length c6) out) := own_block (HO.out.grow g8) (fun j hj => hfar9 j (by have := hA6 j hj; omega))
              have x9 : Blk w9 wr.heap.size 128 #[.int .i64 ck.r, .int .i64 (ck.b 0), .int .i64 (ck.b 1), .int .i64 (ck.b 2), .int .i64 (ck.b 3)] := (hfar9 _ (by have := HP.out.lt; omega)).trans X0.out
              have q9 := Lib.hid ((hbk.block _ hlw5).trans q7.out)
              have HP9 := Lib.hid hp9
              have d0 : w9.cell? ⟨w.heap.size, 0, none⟩ = some (.int .i64 l.lo) := Blk.cell q9.out 0 rfl
              have d1 : w9.cell? ⟨w.heap.size, 1, none⟩ = some (.int .i64 l.hi) := Blk.cell q9.out 1 rfl
              have d2 : w9.cell? ⟨w.heap.size, 2, none⟩ = some (.slice A l.gs.length cA) := Blk.cell q9.out 2 rfl
              have d3 : w9.cell? ⟨w.heap.size, 3, none⟩ = some (.slice C l.cs.length cC) := Blk.cell q9.out 3 rfl
              have e0 := x9.cell 0 (v := .int .i64 ck.r) rfl
              have e1 := x9.cell 1 (v := .int .i64 (ck.b 0)) rfl
              have e2 := x9.cell 2 (v := .int .i64 (ck.b 1)) rfl
              have e3 := x9.cell 3 (v := .int .i64 (ck.b 2)) rfl
              have e4 := x9.cell 4 (v := .int .i64 (ck.b 3)) rfl
              clear y0 y1 y2 y3 y4 z0 z1 z2 z3 z4 zf0 zf1 zf2 zf3 zf4 hp9 hfar9 hset9 hlow9 hq
              go_wp2_with fail
              refine (dues_c l A C cA cC ck w9 hV hck.out (hL.g.grow gW9)).mono ?_
              rintro e w10 ⟨⟨v, rfl, hO10⟩, hb10⟩
              obtain ⟨A10, c10, rfl, -, hR10⟩ := hO10.row
              go_wp2_with fail
              refine (share_c A10 c10 (dues l ck) sum w10 hR10 (by rw [dues_len]; exact hV.ng) (dues_bd hV hck.out) hs0 (by omega)).mono ?_
              rintro e w11 ⟨⟨v, rfl, hO11⟩, hb11⟩
              obtain ⟨A11, c11, rfl, -, hR11⟩ := hO11.row
              have hsl : (shareL (dues l ck) sum).length = l.gs.length := by rw [shareL_len, dues_len]
              have HO12 := Lib.hid (HO9.out.grow (hb10.trans hb11))
              have HP12 := Lib.hid ((HP9.out.grow hb10).grow hb11)
              have hbk11 : Below w5.heap.size W7 w11 := Below.trans hbk ((hb10.trans hb11).mono (by have := hbk.size; have := g7.size; omega))
              have HR11 := Lib.hid hR11
              have hn6 := Lib.hid (show (shareL (dues l c0) sum).length = l.gs.length by rw [HSL.out, dues_len])
              have HB11 := Lib.hid (own_base hO11)
              clear hO10 hO11 hR10 hR11 d0 d1 d2 d3 e0 e1 e2 e3 e4
              generalize hsk : shareL (dues l ck) sum = sk at *
              have HSK := Lib.hid hsk
              clear hsk
              have hsn : (sk.length : Int) = l.gs.length := by omega
              go_wp2_with fail
              obtain ⟨wo, rfl⟩ : ∃ wo : World, wo = wr := ⟨_, rfl⟩
              go_loopw [69] (fun v69 wr => ∃ i : Nat, i ≤ sk.length ∧ v69 = .int .i64 i ∧ Hid (OwnI w5.heap.size wr (.slice A6 (shareL (dues l c0) sum).length c6) (minTo out sk i)) ∧ Hid (w11.grownBy wr (.slice A6 (shareL (dues l c0) sum).length c6 : Value).ownBlock)) (fun v69 _ => sk.length - (intOf v69).toNat)
              case atStart => exact ⟨0, by omega, rfl, by rw [minTo_zero]; exact HO12.out, ⟨rfl, rfl, rfl, Nat.le_refl _, fun _ _ _ => rfl⟩⟩
              case round =>
                obtain ⟨i, hi, rfl, HOi, HGi⟩ := hrel
                by_cases hil : i < sk.length
                · have hio : i < out.length := by have := HL2.out; omega
                  have hil' : (i : Int) < sk.length := by omega
                  have hi0 : (0 : Int) ≤ i := by omega
                  obtain ⟨b11, o11, rfl, s0⟩ := HR11.out.at hil
                  obtain ⟨g, rfl, hgb, s1, s2, hset⟩ := HOi.out.set (i := i) (by rw [minTo_len]; exact hio) (min2 (out.getD i 0) (sk.getD i 0))
                  rw [minTo_at] at s1
                  clear hset
                  have hskg : sk.getD i 0 = sk[i] := by simp [List.getD, hil]
                  have hgw6 : g < w6.heap.size := own_lt HO6.out g rfl
                  have hb11g : b11 ≠ g := by have := HB11.out b11 rfl; have := hb10.size; have := hbk.size; have := g7.size; omega
                  have s3 := grown_cell HGi.out s0 (by intro e; exact hb11g (by injection e with e; exact e.symm))
                  have hin : (i : Int) < (shareL (dues l c0) sum).length := by have := hn6.out; omega
                  have HMS := Lib.hid (minTo_succ out sk i hio)
                  clear s0
                  rw [hskg] at HMS
                  generalize sk[i] = si at *
                  generalize out.getD i 0 = oi at *
                  go_wp2_with fail
                  have g13 : G wr (wr.alloc (.cells #[.int .i64 oi, .int .i64 si] 3)) := (G.refl _).alloc _
                  have hrow : RowI (wr.alloc (.cells #[.int .i64 oi, .int .i64 si] 3)) (some ⟨wr.heap.size, 0, none⟩) [oi, si] := fun j x hj => by
                    match j, hj with
                    | 0, hj => simp at hj; subst hj; exact ⟨_, _, rfl, newCell _ _ _ _ rfl⟩
                    | 1, hj => simp at hj; subst hj; exact ⟨_, _, rfl, newCell _ _ _ _ rfl⟩
                    | j + 2, hj => simp at hj
                  generalize wr.alloc _ = w13 at *
                  refine (minimum_c _ oi [si] 2 w13 hrow (by simp)).mono ?_
                  rintro e w14 ⟨rfl, rfl⟩
                  obtain ⟨g', e, -, s5, s6, hset⟩ := (HOi.out.grow g13).set (i := i) (by rw [minTo_len]; exact hio) (min2 oi si)
                  cases e
                  rw [HMS.out] at hset
                  have HSE := Lib.hid hset
                  clear hset
                  have hmn : minL oi [si] = min2 oi si := rfl
                  rw [hmn]
                  go_wp2_with fail
                  go_roundw
                  case rel =>
                    refine ⟨i + 1, by omega, by go_num, HSE.out, ?_⟩
                    exact grownBy_trans HGi.out (grownBy_trans (World.grownBy.but (grownBy_of g13) _) (grownBy_set _ _ _))
                  case measure => simp [intOf]; omega
                · obtain rfl : i = sk.length := by omega
                  go_wp2_with fail
                  go_roundw
                  case rel =>
                    have hzm : minTo out sk sk.length = zipMin out sk := by unfold zipMin; rw [show sk.length = out.length by have := HL2.out; omega]
                    have hoi := HOi.out
                    rw [hzm] at hoi
                    refine ⟨k + 1, zipMin out sk, ck, by omega, by go_num, ?_, hoi, by rw [Hid, zipMin_len]; exact HL2.out, by rw [HSK.out]; exact zipMin_twice _ _, HP12.out.grown HGi.out (fun e => by have := own_lt HO6.out _ e.symm; omega), ?_⟩
                    · have h := HF.out
                      rw [HD.out] at h
                      have h2 : leastG l sum (zipMin out (shareL (dues l ck) sum)) (rs.drop (k + 1)) = leastG l sum (shareL (dues l c0) sum) rs := h
                      rw [HSK.out] at h2
                      exact h2
                    · exact Below.grown hbk11 HGi.out (by have := hbk11.size; have := g7.size; omega) (fun j hj => own_base HO12.out j hj)
                  case measure => simp [intOf]; omega
            · go_upto_region 11 with fail
              generalize hW9 : ((((World.setCell _ _ _).setCell _ _).setCell _ _).setCell _ _).setCell _ _ = w9
              obtain ⟨hlow9, hfar9, hset9⟩ := set5 hW9
              clear hW9
              have hp9 := hset9 _ _ _ _ _ _ HP8.out
              have hA6 := own_lt HO6.out
              have hbk : Below w5.heap.size W7 w9 := Below.trans (Below.trans hbw (g8.mono (by have := hbw.size; have := g7.size; omega))) (hlow9 _ hz57)
              have gW9 : G w w9 := Below.trans gW7 (hbk.mono (by omega))
              have HO9 : Hid (OwnI w5.heap.size w9 (.slice A6 (shareL (dues l c0) sum).length c6) out) := own_block (HO.out.grow g8) (fun j hj => hfar9 j (by have := hA6 j hj; omega))
              have x9 : Blk w9 wr.heap.size 128 #[.int .i64 ck.r, .int .i64 (ck.b 0), .int .i64 (ck.b 1), .int .i64 (ck.b 2), .int .i64 (ck.b 3)] := (hfar9 _ (by have := HP.out.lt; omega)).trans X0.out
              have q9 := Lib.hid ((hbk.block _ hlw5).trans q7.out)
              have HP9 := Lib.hid hp9
              have d0 : w9.cell? ⟨w.heap.size, 0, none⟩ = some (.int .i64 l.lo) := Blk.cell q9.out 0 rfl
              have d1 : w9.cell? ⟨w.heap.size, 1, none⟩ = some (.int .i64 l.hi) := Blk.cell q9.out 1 rfl
              have d2 : w9.cell? ⟨w.heap.size, 2, none⟩ = some (.slice A l.gs.length cA) := Blk.cell q9.out 2 rfl
              have d3 : w9.cell? ⟨w.heap.size, 3, none⟩ = some (.slice C l.cs.length cC) := Blk.cell q9.out 3 rfl
              have e0 := x9.cell 0 (v := .int .i64 ck.r) rfl
              have e1 := x9.cell 1 (v := .int .i64 (ck.b 0)) rfl
              have e2 := x9.cell 2 (v := .int .i64 (ck.b 1)) rfl
              have e3 := x9.cell 3 (v := .int .i64 (ck.b 2)) rfl
              have e4 := x9.cell 4 (v := .int .i64 (ck.b 3)) rfl
              clear y0 y1 y2 y3 y4 z0 z1 z2 z3 z4 zf0 zf1 zf2 zf3 zf4 hp9 hfar9 hset9 hlow9 hq
              go_wp2_with fail
              refine (dues_c l A C cA cC ck w9 hV hck.out (hL.g.grow gW9)).mono ?_
              rintro e w10 ⟨⟨v, rfl, hO10⟩, hb10⟩
              obtain ⟨A10, c10, rfl, -, hR10⟩ := hO10.row
              go_wp2_with fail
              refine (share_c A10 c10 (dues l ck) sum w10 hR10 (by rw [dues_len]; exact hV.ng) (dues_bd hV hck.out) hs0 (by omega)).mono ?_
              rintro e w11 ⟨⟨v, rfl, hO11⟩, hb11⟩
              obtain ⟨A11, c11, rfl, -, hR11⟩ := hO11.row
              have hsl : (shareL (dues l ck) sum).length = l.gs.length := by rw [shareL_len, dues_len]
              have HO12 := Lib.hid (HO9.out.grow (hb10.trans hb11))
              have HP12 := Lib.hid ((HP9.out.grow hb10).grow hb11)
              have hbk11 : Below w5.heap.size W7 w11 := Below.trans hbk ((hb10.trans hb11).mono (by have := hbk.size; have := g7.size; omega))
              have HR11 := Lib.hid hR11
              have hn6 := Lib.hid (show (shareL (dues l c0) sum).length = l.gs.length by rw [HSL.out, dues_len])
              have HB11 := Lib.hid (own_base hO11)
              clear hO10 hO11 hR10 hR11 d0 d1 d2 d3 e0 e1 e2 e3 e4
              generalize hsk : shareL (dues l ck) sum = sk at *
              have HSK := Lib.hid hsk
              clear hsk
              have hsn : (sk.length : Int) = l.gs.length := by omega
              go_wp2_with fail
              obtain ⟨wo, rfl⟩ : ∃ wo : World, wo = wr := ⟨_, rfl⟩
              go_loopw [69] (fun v69 wr => ∃ i : Nat, i ≤ sk.length ∧ v69 = .int .i64 i ∧ Hid (OwnI w5.heap.size wr (.slice A6 (shareL (dues l c0) sum).length c6) (minTo out sk i)) ∧ Hid (w11.grownBy wr (.slice A6 (shareL (dues l c0) sum).length c6 : Value).ownBlock)) (fun v69 _ => sk.length - (intOf v69).toNat)
              case atStart => exact ⟨0, by omega, rfl, by rw [minTo_zero]; exact HO12.out, ⟨rfl, rfl, rfl, Nat.le_refl _, fun _ _ _ => rfl⟩⟩
              case round =>
                obtain ⟨i, hi, rfl, HOi, HGi⟩ := hrel
                by_cases hil : i < sk.length
                · have hio : i < out.length := by have := HL2.out; omega
                  have hil' : (i : Int) < sk.length := by omega
                  have hi0 : (0 : Int) ≤ i := by omega
                  obtain ⟨b11, o11, rfl, s0⟩ := HR11.out.at hil
                  obtain ⟨g, rfl, hgb, s1, s2, hset⟩ := HOi.out.set (i := i) (by rw [minTo_len]; exact hio) (min2 (out.getD i 0) (sk.getD i 0))
                  rw [minTo_at] at s1
                  clear hset
                  have hskg : sk.getD i 0 = sk[i] := by simp [List.getD, hil]
                  have hgw6 : g < w6.heap.size := own_lt HO6.out g rfl
                  have hb11g : b11 ≠ g := by have := HB11.out b11 rfl; have := hb10.size; have := hbk.size; have := g7.size; omega
                  have s3 := grown_cell HGi.out s0 (by intro e; exact hb11g (by injection e with e; exact e.symm))
                  have hin : (i : Int) < (shareL (dues l c0) sum).length := by have := hn6.out; omega
                  have HMS := Lib.hid (minTo_succ out sk i hio)
                  clear s0
                  rw [hskg] at HMS
                  generalize sk[i] = si at *
                  generalize out.getD i 0 = oi at *
                  go_wp2_with fail
                  have g13 : G wr (wr.alloc (.cells #[.int .i64 oi, .int .i64 si] 3)) := (G.refl _).alloc _
                  have hrow : RowI (wr.alloc (.cells #[.int .i64 oi, .int .i64 si] 3)) (some ⟨wr.heap.size, 0, none⟩) [oi, si] := fun j x hj => by
                    match j, hj with
                    | 0, hj => simp at hj; subst hj; exact ⟨_, _, rfl, newCell _ _ _ _ rfl⟩
                    | 1, hj => simp at hj; subst hj; exact ⟨_, _, rfl, newCell _ _ _ _ rfl⟩
                    | j + 2, hj => simp at hj
                  generalize wr.alloc _ = w13 at *
                  refine (minimum_c _ oi [si] 2 w13 hrow (by simp)).mono ?_
                  rintro e w14 ⟨rfl, rfl⟩
                  obtain ⟨g', e, -, s5, s6, hset⟩ := (HOi.out.grow g13).set (i := i) (by rw [minTo_len]; exact hio) (min2 oi si)
                  cases e
                  rw [HMS.out] at hset
                  have HSE := Lib.hid hset
                  clear hset
                  have hmn : minL oi [si] = min2 oi si := rfl
                  rw [hmn]
                  go_wp2_with fail
                  go_roundw
                  case rel =>
                    refine ⟨i + 1, by omega, by go_num, HSE.out, ?_⟩
                    exact grownBy_trans HGi.out (grownBy_trans (World.grownBy.but (grownBy_of g13) _) (grownBy_set _ _ _))
                  case measure => simp [intOf]; omega
                · obtain rfl : i = sk.length := by omega
                  go_wp2_with fail
                  go_roundw
                  case rel =>
                    have hzm : minTo out sk sk.length = zipMin out sk := by unfold zipMin; rw [show sk.length = out.length by have := HL2.out; omega]
                    have hoi := HOi.out
                    rw [hzm] at hoi
                    refine ⟨k + 1, zipMin out sk, ck, by omega, by go_num, ?_, hoi, by rw [Hid, zipMin_len]; exact HL2.out, by rw [HSK.out]; exact zipMin_twice _ _, HP12.out.grown HGi.out (fun e => by have := own_lt HO6.out _ e.symm; omega), ?_⟩
                    · have h := HF.out
                      rw [HD.out] at h
                      have h2 : leastG l sum (zipMin out (shareL (dues l ck) sum)) (rs.drop (k + 1)) = leastG l sum (shareL (dues l c0) sum) rs := h
                      rw [HSK.out] at h2
                      exact h2
                    · exact Below.grown hbk11 HGi.out (by have := hbk11.size; have := g7.size; omega) (fun j hj => own_base HO12.out j hj)
                  case measure => simp [intOf]; omega
        · obtain rfl : k = rs.length := by omega
          go_wp2_with fail
          go_ret2
          have hf := HF.out
          rw [List.drop_eq_nil_of_le (Nat.le_refl _)] at hf
          have hf2 : out = leastG l sum (shareL (dues l c0) sum) rs := hf
          have ho := HO.out
          rw [hf2, ← HYY.out] at ho
          exact ⟨⟨_, by simp [← HEE.out], OwnI.lower ho (by omega)⟩, gWr⟩
end Go.Proofs.Ytogdhkecpjndlaa.C
