/- Texts joined: L4 L5 L6. -/
import Derived.Test.YtogdhkecpjndlaaGF
import Derived.Test.YtogdhkecpjndlaaGE
set_option linter.unusedSimpArgs false
set_option linter.unusedVariables false
/- The laws' examples: the ledger of three growers, without and with claims. -/
namespace Go.Proofs.Ytogdhkecpjndlaa.C
open Go.RowKit
set_option maxRecDepth 100000

def threeG : List T3 := [⟨10, 3, 4⟩, ⟨20, 3, 3⟩, ⟨5, 1, 2⟩]
def threeL (cs : List T3) : Led := ⟨6, 7, threeG, cs⟩
theorem row3_of {w : World} {g : Nat} {e : TypeId} {xs : List T3} (h : Blk w g e (cells3 xs).toArray) : Row3 w (some ⟨g, 0, none⟩) xs := fun j x hj => by
  obtain ⟨h0, h1, h2⟩ := cells3_at xs j x hj
  refine ⟨g, 0, rfl, ?_, ?_, ?_⟩
  · rw [Nat.zero_add]; exact h.cell _ (by simpa using h0)
  · rw [Nat.zero_add]; exact h.cell _ (by simpa using h1)
  · rw [Nat.zero_add]; exact h.cell _ (by simpa using h2)

set_option maxHeartbeats 2000000 in
theorem three_c (C : Option Addr) (cC : Nat) (cs : List T3) (w : World) (hC : Row3 w C cs) :
    Calls Try.prog 70 #[.slice C cs.length cC] w fun e w' => (∃ b, e = .returned (ledV (threeL cs) (some ⟨b, 0, none⟩) C 3 cC) ∧ w.heap.size ≤ b ∧ LedR w' (threeL cs) (some ⟨b, 0, none⟩) C) ∧ G w w' := by
  have HC := Lib.hid hC
  clear hC
  go_enter Try.func70, Try.ntmps70
  go_wp2_with fail
  have q0 : Blk (w.alloc (.cells #[.int .i64 0, .int .i64 0, .slice none 0 0, .slice none 0 0] 38)) w.heap.size 38 #[.int .i64 0, .int .i64 0, .slice none 0 0, .slice none 0 0] := Blk.new _ _ _
  have hB : G w (w.alloc (.cells #[.int .i64 0, .int .i64 0, .slice none 0 0, .slice none 0 0] 38)) := (G.refl _).alloc _
  generalize w.alloc _ = W at *
  refine (rng_c _ _ _).mono ?_
  rintro e w1 ⟨rfl, hb1⟩
  go_wp2_with fail
  refine (rng_c _ _ _).mono ?_
  rintro e w2 ⟨rfl, hb2⟩
  go_wp2_with fail
  refine (rng_c _ _ _).mono ?_
  rintro e w3 ⟨rfl, hb3⟩
  go_wp2_with fail
  refine (rng_c _ _ _).mono ?_
  rintro e w4 ⟨rfl, hb4⟩
  have hn4 := (q0.grow (hb1.trans (hb2.trans (hb3.trans hb4)))).lt
  have hB4 := hB.trans (hb1.trans (hb2.trans (hb3.trans hb4)))
  have q4' := q0.grow (hb1.trans (hb2.trans (hb3.trans hb4)))
  have t0 := q4'.cell 0 (v := .int .i64 0) rfl
  have t1 := q4'.cell 1 (v := .int .i64 0) rfl
  have t2 := q4'.cell 2 (v := .slice none 0 0) rfl
  have t3 := q4'.cell 3 (v := .slice none 0 0) rfl
  have z0 := q4'.frozen 0
  have z1 := q4'.frozen 1
  have z2 := q4'.frozen 2
  have z3 := q4'.frozen 3
  go_wp2_with fail
  have q5 := (((q4'.set 0 (.int .i64 6)).set 1 (.int .i64 7)).set 2 (.slice (some ⟨w4.heap.size, 0, none⟩) 3 3)).set 3 (.slice C cs.length cC)
  have gE := (((hB4.setCell (p := ⟨w.heap.size, 0, none⟩) (by simp) (.int .i64 6)).setCell (p := ⟨w.heap.size, 1, none⟩) (by simp) (.int .i64 7)).setCell (p := ⟨w.heap.size, 2, none⟩) (by simp) (.slice (some ⟨w4.heap.size, 0, none⟩) 3 3)).setCell (p := ⟨w.heap.size, 3, none⟩) (by simp) (.slice C cs.length cC)
  have hs5 : ((((w4.setCell ⟨w.heap.size, 0, none⟩ (.int .i64 6)).setCell ⟨w.heap.size, 1, none⟩ (.int .i64 7)).setCell ⟨w.heap.size, 2, none⟩ (.slice (some ⟨w4.heap.size, 0, none⟩) 3 3)).setCell ⟨w.heap.size, 3, none⟩ (.slice C cs.length cC)).heap.size = w4.heap.size := by simp
  generalize (((w4.setCell ⟨w.heap.size, 0, none⟩ (.int .i64 6)).setCell ⟨w.heap.size, 1, none⟩ (.int .i64 7)).setCell ⟨w.heap.size, 2, none⟩ (.slice (some ⟨w4.heap.size, 0, none⟩) 3 3)).setCell ⟨w.heap.size, 3, none⟩ (.slice C cs.length cC) = U at *
  have q6 := q5.grow ((G.refl U).alloc (.cells #[.int .i64 10, .int .i64 3, .int .i64 4, .int .i64 20, .int .i64 3, .int .i64 3, .int .i64 5, .int .i64 1, .int .i64 2] 114))
  have n6 : Blk (U.alloc (.cells #[.int .i64 10, .int .i64 3, .int .i64 4, .int .i64 20, .int .i64 3, .int .i64 3, .int .i64 5, .int .i64 1, .int .i64 2] 114)) w4.heap.size 114 #[.int .i64 10, .int .i64 3, .int .i64 4, .int .i64 20, .int .i64 3, .int .i64 3, .int .i64 5, .int .i64 1, .int .i64 2] := Blk.new' hs5.symm
  have gF := gE.alloc (.cells #[.int .i64 10, .int .i64 3, .int .i64 4, .int .i64 20, .int .i64 3, .int .i64 3, .int .i64 5, .int .i64 1, .int .i64 2] 114)
  generalize U.alloc _ = V at *
  have x0 := q6.cell 0 (v := .int .i64 6) rfl
  have x1 := q6.cell 1 (v := .int .i64 7) rfl
  have x2 := q6.cell 2 (v := .slice (some ⟨w4.heap.size, 0, none⟩) 3 3) rfl
  have x3 := q6.cell 3 (v := .slice C cs.length cC) rfl
  exact bodyPost_ret (v := ledV (threeL cs) (some ⟨w4.heap.size, 0, none⟩) C 3 cC) (by simp [results, Try.results70, go_sem, x0, x1, x2, x3, threeL, threeG]) rfl ⟨⟨_, rfl, by omega, row3_of (xs := threeG) n6, HC.out.grow gF⟩, gF⟩

def noneC : List T3 := [⟨2, 3, 3⟩, ⟨1, 0, 0⟩, ⟨0, 11, 11⟩]
set_option maxHeartbeats 2000000 in
theorem none_c (w : World) :
    Calls Try.prog 73 #[] w fun e w' => (∃ A C, e = .returned (ledV (threeL noneC) A C 3 3) ∧ LedR w' (threeL noneC) A C) ∧ G w w' := by
  go_enter Try.func73, Try.ntmps73
  go_wp2_with fail
  have q0 : Blk (w.alloc (.cells #[.int .i64 0, .int .i64 0, .slice none 0 0, .slice none 0 0] 38)) w.heap.size 38 #[.int .i64 0, .int .i64 0, .slice none 0 0, .slice none 0 0] := Blk.new _ _ _
  have hB : G w (w.alloc (.cells #[.int .i64 0, .int .i64 0, .slice none 0 0, .slice none 0 0] 38)) := (G.refl _).alloc _
  generalize w.alloc _ = W at *
  refine (mkClaim_c _ _ _).mono ?_
  rintro e w1 ⟨rfl, hb1⟩
  go_wp2_with fail
  refine (mkClaim_c _ _ _).mono ?_
  rintro e w2 ⟨rfl, hb2⟩
  go_wp2_with fail
  refine (mkClaim_c _ _ _).mono ?_
  rintro e w3 ⟨rfl, hb3⟩
  go_wp2_with fail
  have hb4 := (hb1.trans (hb2.trans hb3)).alloc (.cells #[.int .i64 2, .int .i64 3, .int .i64 3, .int .i64 1, .int .i64 0, .int .i64 0, .int .i64 0, .int .i64 11, .int .i64 11] 110)
  have n4 : Blk (w3.alloc (.cells #[.int .i64 2, .int .i64 3, .int .i64 3, .int .i64 1, .int .i64 0, .int .i64 0, .int .i64 0, .int .i64 11, .int .i64 11] 110)) w3.heap.size 110 #[.int .i64 2, .int .i64 3, .int .i64 3, .int .i64 1, .int .i64 0, .int .i64 0, .int .i64 0, .int .i64 11, .int .i64 11] := Blk.new _ _ _
  refine (three_c (some ⟨w3.heap.size, 0, none⟩) 3 noneC _ (row3_of (xs := noneC) n4)).mono ?_
  rintro e w5 ⟨⟨b, rfl, hbb, hL⟩, hb5⟩
  have q5 := (q0.grow hb4).grow hb5
  have t0 := q5.cell 0 (v := .int .i64 0) rfl
  have t1 := q5.cell 1 (v := .int .i64 0) rfl
  have t2 := q5.cell 2 (v := .slice none 0 0) rfl
  have t3 := q5.cell 3 (v := .slice none 0 0) rfl
  have z0 := q5.frozen 0
  have z1 := q5.frozen 1
  have z2 := q5.frozen 2
  have z3 := q5.frozen 3
  have HL := Lib.hid hL
  clear hL
  go_wp2_with fail
  have gS : w5.grownBy ((((w5.setCell ⟨w.heap.size, 0, none⟩ (.int .i64 6)).setCell ⟨w.heap.size, 1, none⟩ (.int .i64 7)).setCell ⟨w.heap.size, 2, none⟩ (.slice (some ⟨b, 0, none⟩) 3 3)).setCell ⟨w.heap.size, 3, none⟩ (.slice (some ⟨w3.heap.size, 0, none⟩) 3 3)) (some w.heap.size) :=
    grownBy_trans (grownBy_trans (grownBy_trans (grownBy_set _ _ _) (grownBy_set _ _ _)) (grownBy_set _ _ _)) (grownBy_set _ _ _)
  have gE := ((((hB.trans (hb4.trans hb5)).setCell (p := ⟨w.heap.size, 0, none⟩) (by simp) (.int .i64 6)).setCell (p := ⟨w.heap.size, 1, none⟩) (by simp) (.int .i64 7)).setCell (p := ⟨w.heap.size, 2, none⟩) (by simp) (.slice (some ⟨b, 0, none⟩) 3 3)).setCell (p := ⟨w.heap.size, 3, none⟩) (by simp) (.slice (some ⟨w3.heap.size, 0, none⟩) 3 3)
  have q6 := (((q5.set 0 (.int .i64 6)).set 1 (.int .i64 7)).set 2 (.slice (some ⟨b, 0, none⟩) 3 3)).set 3 (.slice (some ⟨w3.heap.size, 0, none⟩) 3 3)
  have x0 := q6.cell 0 (v := .int .i64 6) rfl
  have x1 := q6.cell 1 (v := .int .i64 7) rfl
  have x2 := q6.cell 2 (v := .slice (some ⟨b, 0, none⟩) 3 3) rfl
  have x3 := q6.cell 3 (v := .slice (some ⟨w3.heap.size, 0, none⟩) 3 3) rfl
  refine bodyPost_ret (v := ledV (threeL noneC) (some ⟨b, 0, none⟩) (some ⟨w3.heap.size, 0, none⟩) 3 3) (by simp [results, Try.results73, go_sem, x0, x1, x2, x3, threeL, threeG, noneC]) rfl ⟨⟨_, _, rfl, HL.out.g.grown gS ?_, HL.out.c.grown gS ?_⟩, gE⟩
  · intro b' off e1 e2
    cases e1
    cases e2
    have := (q0.grow hb4).lt
    omega
  · intro b' off e1 e2
    cases e1
    have := (q0.grow (hb1.trans (hb2.trans hb3))).lt
    injection e2 with e2
    omega
end Go.Proofs.Ytogdhkecpjndlaa.C

/- The document's first examples, evaluated. -/
namespace Go.Proofs.Ytogdhkecpjndlaa.C
set_option maxRecDepth 100000

def mostX : Cn := ⟨7, [4, 3, 2]⟩
theorem ex_play : playL (threeL []) mostX = [18, 1, 9] ∧ cErr (threeL []) mostX true = 0 := by decide +kernel
theorem ex_bounds : boundL (threeL [⟨1, 1, 1⟩]) = [(11, 18), (1, 1), (2, 9)] ∧ askErr (threeL [⟨1, 1, 1⟩]) true = 0 := by decide +kernel
theorem ex_clear : clearL (threeL []) = [1, 3, 1] ∧ askErr (threeL []) true = 0 := by decide +kernel
theorem ex_ask : askL (threeL []) = (0, 4, 0) := by decide +kernel
theorem ex_share : shareR (threeL []) mostX 10 = [7, 0, 3] ∧ cErr (threeL []) mostX (inB 10 0 9999) = 0 := by decide +kernel
theorem ex_least : leastL (threeL []) 10 = [5, 0, 1] ∧ askErr (threeL []) (inB 10 0 9999) = 0 := by decide +kernel
theorem ex_full : fullL (threeL []) = 28 := by decide +kernel
theorem ex_struck : struckL (threeL noneC) = [0, 1] ∧ fault (threeL noneC) = 0 := by decide +kernel
theorem ex_leave : leaveL (threeL noneC) = [0, 1] := by decide +kernel
end Go.Proofs.Ytogdhkecpjndlaa.C

/- The document's first examples, called. -/
namespace Go.Proofs.Ytogdhkecpjndlaa.C
open Go.RowKit
set_option maxRecDepth 100000

theorem row_ends {base : Nat} {w : World} {v : Value} {xs : List Int} {n : Nat} (h : OwnI base w v xs) (hn : xs.length = n) : ∃ A c, v = .slice A n c ∧ RowI w A xs := by
  obtain ⟨A, c, rfl, -, hr⟩ := h.row
  exact ⟨A, c, by rw [hn], hr⟩

theorem exPlay_c (A B : Option Addr) (cB : Nat) (w : World) (hL : LedR w (threeL []) A none) (hB : RowI w B [4, 3, 2]) :
    Calls Try.prog 42 #[ledV (threeL []) A none 3 0, cntArg mostX B cB] w fun e w' => (∃ A' c', e = .returned (.tuple #[.slice A' 3 c', .int .i64 0]) ∧ RowI w' A' [18, 1, 9]) ∧ G w w' := by
  have h := Play_c (threeL []) A none B 3 0 cB mostX w hL hB (by decide) (by decide) (by decide)
  rw [ex_play.1, ex_play.2] at h
  refine h.mono ?_
  rintro e w' ⟨⟨v, rfl, ho⟩, hb⟩
  obtain ⟨A', c', rfl, hr⟩ := row_ends ho rfl
  exact ⟨⟨A', c', rfl, hr⟩, hb⟩
theorem exBounds_c (A C : Option Addr) (w : World) (hL : LedR w (threeL [⟨1, 1, 1⟩]) A C) :
    Calls Try.prog 47 #[ledV (threeL [⟨1, 1, 1⟩]) A C 3 1] w fun e w' => (∃ A' c', e = .returned (.tuple #[.slice A' 3 c', .int .i64 0]) ∧ Row2 w' A' [(11, 18), (1, 1), (2, 9)]) ∧ G w w' := by
  have h := Bounds_c (threeL [⟨1, 1, 1⟩]) A C 3 1 w hL (by decide) (by decide)
  rw [ex_bounds.1, ex_bounds.2] at h
  refine h.mono ?_
  rintro e w' ⟨⟨v, rfl, ho⟩, hb⟩
  obtain ⟨A', c', rfl, -, hr⟩ := Own2.row ho
  exact ⟨⟨A', c', rfl, hr⟩, hb⟩
theorem exClear_c (A : Option Addr) (w : World) (hL : LedR w (threeL []) A none) :
    Calls Try.prog 23 #[ledV (threeL []) A none 3 0] w fun e w' => (∃ A' c', e = .returned (.tuple #[.slice A' 3 c', .int .i64 0]) ∧ RowI w' A' [1, 3, 1]) ∧ G w w' := by
  have h := Clear_c (threeL []) A none 3 0 w hL (by decide) (by decide)
  rw [ex_clear.1, ex_clear.2] at h
  refine h.mono ?_
  rintro e w' ⟨⟨v, rfl, ho⟩, hb⟩
  obtain ⟨A', c', rfl, hr⟩ := row_ends ho rfl
  exact ⟨⟨A', c', rfl, hr⟩, hb⟩
theorem exAsk_c (A : Option Addr) (w : World) (hL : LedR w (threeL []) A none) :
    Calls Try.prog 25 #[ledV (threeL []) A none 3 0] w fun e w' => e = .returned (.tuple #[.int .i64 0, .int .i64 4, .int .i64 0]) ∧ G w w' := by
  have h := Ask_c (threeL []) A none 3 0 w hL (by decide) (by decide)
  rw [ex_ask] at h
  exact h
theorem exShare_c (A B : Option Addr) (cB : Nat) (w : World) (hL : LedR w (threeL []) A none) (hB : RowI w B [4, 3, 2]) :
    Calls Try.prog 29 #[ledV (threeL []) A none 3 0, cntArg mostX B cB, .int .i64 10] w fun e w' => (∃ A' c', e = .returned (.tuple #[.slice A' 3 c', .int .i64 0]) ∧ RowI w' A' [7, 0, 3]) ∧ G w w' := by
  have h := Share_c (threeL []) A none B 3 0 cB mostX 10 w hL hB (by decide) (by decide) (by decide)
  rw [ex_share.1, ex_share.2] at h
  refine h.mono ?_
  rintro e w' ⟨⟨v, rfl, ho⟩, hb⟩
  obtain ⟨A', c', rfl, hr⟩ := row_ends ho rfl
  exact ⟨⟨A', c', rfl, hr⟩, hb⟩
theorem exLeast_c (A : Option Addr) (w : World) (hL : LedR w (threeL []) A none) :
    Calls Try.prog 34 #[ledV (threeL []) A none 3 0, .int .i64 10] w fun e w' => (∃ A' c', e = .returned (.tuple #[.slice A' 3 c', .int .i64 0]) ∧ RowI w' A' [5, 0, 1]) ∧ G w w' := by
  have h := Least_c (threeL []) A none 3 0 10 w hL (by decide) (by decide)
  rw [ex_least.1, ex_least.2] at h
  refine h.mono ?_
  rintro e w' ⟨⟨v, rfl, ho⟩, hb⟩
  obtain ⟨A', c', rfl, hr⟩ := row_ends ho rfl
  exact ⟨⟨A', c', rfl, hr⟩, hb⟩
theorem exFull_c (A : Option Addr) (w : World) (hL : LedR w (threeL []) A none) :
    Calls Try.prog 35 #[ledV (threeL []) A none 3 0] w fun e w' => e = .returned (.tuple #[.int .i64 28, .int .i64 0]) ∧ G w w' := by
  have h := Full_c (threeL []) A none 3 0 w hL (by decide) (by decide)
  rw [ex_full, ex_clear.2] at h
  exact h
theorem exStruck_c (A C : Option Addr) (w : World) (hL : LedR w (threeL noneC) A C) :
    Calls Try.prog 53 #[ledV (threeL noneC) A C 3 3] w fun e w' => (∃ A' c', e = .returned (.tuple #[.slice A' 2 c', .int .i64 0]) ∧ RowI w' A' [0, 1]) ∧ G w w' := by
  have h := Struck_c (threeL noneC) A C 3 3 w hL (by decide) (by decide) (by decide)
  rw [ex_struck.1, ex_struck.2] at h
  refine h.mono ?_
  rintro e w' ⟨⟨v, rfl, ho⟩, hb⟩
  obtain ⟨A', c', rfl, hr⟩ := row_ends ho rfl
  exact ⟨⟨A', c', rfl, hr⟩, hb⟩
theorem exLeave_c (A C : Option Addr) (w : World) (hL : LedR w (threeL noneC) A C) :
    Calls Try.prog 49 #[ledV (threeL noneC) A C 3 3] w fun e w' => (∃ A' c', e = .returned (.tuple #[.slice A' 2 c', .int .i64 0]) ∧ RowI w' A' [0, 1]) ∧ G w w' := by
  have h := Leave_c (threeL noneC) A C 3 3 w hL (by decide) (by decide) leaveF_some
  rw [ex_leave, ex_struck.2] at h
  refine h.mono ?_
  rintro e w' ⟨⟨v, rfl, ho⟩, hb⟩
  obtain ⟨A', c', rfl, hr⟩ := row_ends ho rfl
  exact ⟨⟨A', c', rfl, hr⟩, hb⟩
theorem eq34 (a b c d : Int) (w : World) : (binOp .eql 34 (.agg #[.int .i64 a, .int .i64 b]) (.agg #[.int .i64 c, .int .i64 d])).run Try.prog w = .ok (.bool ((a == c) && (b == d))) w := by
  have h1 : ∀ d (x y : Int) w, (Op.equalIn (d + 1) 3 (.int .i64 x) (.int .i64 y)).run Try.prog w = .ok (x == y) w := fun d x y w => by
    conv => lhs; unfold Op.equalIn
    simp [run_underlying und3, Result.andThen]
  have h9 : ∀ (x y : Int) w, (Op.equalIn 9999 3 (.int .i64 x) (.int .i64 y)).run Try.prog w = .ok (x == y) w := h1 9998
  have hp : ∀ (x0 x1 : Int) w, (part 3 #[.int .i64 x0, .int .i64 x1] 0).run Try.prog w = .ok (.int .i64 x0) w ∧ (part 3 #[.int .i64 x0, .int .i64 x1] 1).run Try.prog w = .ok (.int .i64 x1) w := fun _ _ _ => ⟨rfl, rfl⟩
  obtain ⟨p0, p1⟩ := hp a b w
  obtain ⟨r0, r1⟩ := hp c d w
  simp only [binOp]
  unfold Op.equal
  simp only [Op.maxDepth]
  unfold Op.equalIn
  simp [run_underlying Try.underlying34, Result.andThen]
  cases e0 : (a == c) <;> cases e1 : (b == d) <;> simp [p0, p1, r0, r1, h9, Result.andThen, e0, e1]
end Go.Proofs.Ytogdhkecpjndlaa.C
