/- The laws' arguments opened: a ledger and a count of the reference by value, as they lie in memory. -/
import Derived.Test.YtogdhkecpjndlaaGH
import Derived.WalkKit
import Derived.ProofKit
import Derived.OpenShut
import Derived.ShutString
import Derived.ChangeOld
import Derived.SizedLaws
import Derived.Carry
import Derived.Lib.SmallJoins
import Derived.Deep.Slices
set_option linter.unusedSimpArgs false
set_option linter.unusedVariables false
namespace Go.Proofs.Ytogdhkecpjndlaa.C
open Go.ChangeShapes Go.WideShapes Go.ChangeAt Go.RowKit Go.Joins Go.Deep
set_option maxRecDepth 100000

section
variable {H : Type} {enc : TypeId × Value → H} {w : World}

theorem hC23 : Try.prog.cellsOf 23 = 2 := by kernel_rfl
theorem hC24 : Try.prog.cellsOf 24 = 1 := by kernel_rfl
theorem hC25 : Try.prog.cellsOf 25 = 1 := by kernel_rfl
theorem hC27 : Try.prog.cellsOf 27 = 4 := by kernel_rfl
theorem hC30 : Try.prog.cellsOf 30 = 1 := by kernel_rfl
theorem hC49 : Try.prog.cellsOf 49 = 2 := by kernel_rfl
theorem hC86 : Try.prog.cellsOf 86 = 3 := by kernel_rfl
theorem hC97 : Try.prog.cellsOf 97 = 3 := by kernel_rfl

/-- A range by value. -/
theorem open_rng {n : Nat} {c0 c1 : Value} {y : DataW H × List MemPlace} (h : DataW.trod enc Try.prog w 0 (fun _ => true) true n 23 [c0, c1] = some y) :
    ∃ lo hi, c0 = .int .i64 lo ∧ c1 = .int .i64 hi := by
  obtain ⟨y0, y1, m, -, -, h0, h1⟩ := trod_struct2 Try.underlying23 h
  obtain ⟨lo, e0, -⟩ := DataW.trod_int und3 h0
  obtain ⟨hi, e1, -⟩ := DataW.trod_int und3 h1
  simp [cellsOf3] at e0 e1
  exact ⟨lo, hi, e0, e1⟩

theorem add_none (a : Addr) (ha : a.spot = none) (i : Nat) : a.add i = ⟨a.block, a.off + i, none⟩ := by
  unfold Addr.add
  split
  · rename_i h; subst h; cases a; simp_all
  · rfl

/-- A slice of threes (a number, a range). -/
theorem open_threes {t e : TypeId} {f0 f1 : Field} (ht : Try.prog.underlying t = some (.slice e)) (he : Try.prog.underlying e = some (.struct #[f0, f1])) (hf0 : f0.type = 3 ∧ f0.offset = 0) (hf1 : f1.type = 23 ∧ f1.offset = 1) (hC : Try.prog.cellsOf e = 3)
    {n : Nat} {v : Value} {y : DataW H × List MemPlace} (h : DataW.trod enc Try.prog w 0 (fun _ => true) true n t [v] = some y) :
    ∃ A cap, ∃ xs : List T3, v = .slice A xs.length cap ∧ Row3 w A xs ∧ xs.length ≤ cap := by
  rcases open_slice ht h with ⟨hn, -⟩ | ⟨a, len, cap, m, k, D, Pl, hcs, hb, hl, hm, hmm, hx, hi⟩
  · simp only [List.cons.injEq, and_true] at hn
    exact ⟨none, 0, [], hn, Row3.nil, Nat.le_refl _⟩
  · simp only [List.cons.injEq, and_true] at hcs
    simp only [if_true] at hmm
    obtain rfl := hmm
    have each : ∀ i, i < len → ∃ x : T3, a.spot = none ∧ w.cell? ⟨a.block, a.off + i * 3, none⟩ = some (.int .i64 x.a) ∧ w.cell? ⟨a.block, a.off + i * 3 + 1, none⟩ = some (.int .i64 x.lo) ∧ w.cell? ⟨a.block, a.off + i * 3 + 2, none⟩ = some (.int .i64 x.hi) := by
      intro i hil
      obtain ⟨cs', hc, hd⟩ := hi i (by omega)
      rw [hC] at hc
      obtain ⟨-, hlen, hat⟩ := World.cells?_some hc
      obtain ⟨z0, z1, q, -, -, h0, h1⟩ := trod_struct2 he hd
      rw [hf0.1, hf0.2, cellsOf3] at h0
      rw [hf1.1, hf1.2, hC23] at h1
      match cs', hlen with
      | [c0, c1, c2], _ =>
        obtain ⟨x0, e0, -⟩ := DataW.trod_int und3 h0
        simp at e0
        obtain ⟨x1, x2, e1, e2⟩ := open_rng (enc := enc) (w := w) (y := z1) h1
        have g0 := hat 0 (by omega)
        have g1 := hat 1 (by omega)
        have g2 := hat 2 (by omega)
        simp at g0 g1 g2
        subst e0; subst e1; subst e2
        have hs1 : a.spot = none := by
          have hs := World.cell?_spot (hat 0 (by omega))
          by_cases hz : i = 0
          · subst hz; simpa [Addr.add] using hs
          · have g1' := hat 1 (by omega)
            -- the slice's first element is read, too
            obtain ⟨cs0, hc0, -⟩ := hi 0 (by omega)
            rw [hC] at hc0
            obtain ⟨-, hl0, hat0⟩ := World.cells?_some hc0
            have := hat0 0 (by omega)
            rw [List.getElem?_eq_getElem (by omega)] at this
            have := World.cell?_spot this
            simpa [Addr.add] using this
        refine ⟨⟨x0, x1, x2⟩, hs1, ?_, ?_, ?_⟩
        · have := g0; rw [add_none a hs1] at this; simpa [Addr.add] using this
        · have := g1; rw [add_none a hs1] at this; simpa [Addr.add] using this
        · have := g2; rw [add_none a hs1] at this; simpa [Addr.add] using this
    obtain ⟨f, hf⟩ := choose_lt each
    refine ⟨some a, m, (List.range len).map f, by rw [hcs]; simp, fun j x hj => ?_, by simpa using hl⟩
    have hjl : j < len := by
      have := (List.getElem?_eq_some_iff.1 hj).1
      simpa using this
    simp [hjl] at hj
    subst hj
    obtain ⟨hs, h0, h1, h2⟩ := hf j hjl
    refine ⟨a.block, a.off, ?_, h0, h1, h2⟩
    cases a
    simp at hs
    simp [hs]

/-- A ledger by value. -/
theorem open_led {v : Value} {d : DataW H} {p : List MemPlace} {base : Nat} (hv : Value.okWide Try.prog w .any base 27 v) (h : DataW.Trod enc Try.prog w 0 (fun _ => true) true 27 v d p) :
    ∃ l A C cA cC, v = ledV l A C cA cC ∧ LedR w l A C := by
  obtain ⟨cs, rfl, hsz⟩ := okWide_struct Try.underlying27 hv
  obtain ⟨c0, c1, c2, c3, rfl⟩ := array4 (hsz.trans hC27)
  obtain ⟨fuel, hf⟩ := h
  obtain ⟨y0, y1, y2, n, -, -, h0, h1, h2⟩ := trod_struct3 Try.underlying27 hf
  obtain ⟨lo, hi, rfl, rfl⟩ := open_rng (enc := enc) (w := w) (n := n) (y := y0) h0
  obtain ⟨A, cA, gs, rfl, hA, -⟩ := open_threes (enc := enc) (w := w) (n := n) (y := y1) Try.underlying24 Try.underlying86 ⟨rfl, rfl⟩ ⟨rfl, rfl⟩ hC86 h1
  obtain ⟨C, cC, cs, rfl, hC, -⟩ := open_threes (enc := enc) (w := w) (n := n) (y := y2) Try.underlying25 Try.underlying97 ⟨rfl, rfl⟩ ⟨rfl, rfl⟩ hC97 h2
  exact ⟨⟨lo, hi, gs, cs⟩, A, C, cA, cC, rfl, hA, hC⟩

/-- A count by value. -/
theorem open_cnt {v : Value} {d : DataW H} {p : List MemPlace} {base : Nat} (hv : Value.okWide Try.prog w .any base 49 v) (h : DataW.Trod enc Try.prog w 0 (fun _ => true) true 49 v d p) :
    ∃ c B cB, v = cnV c B cB ∧ RowI w B c.bs := by
  obtain ⟨cs, rfl, hsz⟩ := okWide_struct Try.underlying49 hv
  obtain ⟨c0, c1, rfl⟩ := array2 (hsz.trans hC49)
  obtain ⟨fuel, hf⟩ := h
  obtain ⟨y0, y1, n, -, -, h0, h1⟩ := trod_struct2 Try.underlying49 hf
  obtain ⟨r, e0, -⟩ := DataW.trod_int und3 h0
  have e0' : c0 = .int .i64 r := by simpa [cellsOf3, Value.cells] using e0
  subst e0'
  have h1' : DataW.trod enc Try.prog w 0 (fun _ => true) true n 30 [c1] = some y1 := h1
  rcases open_ints Try.underlying30 und3 cellsOf3 h1' with ⟨hn, -⟩ | ⟨a, len, cap, zs, hcs, -, hl, -, hz, -, hcell, -⟩
  · simp only [List.cons.injEq, and_true] at hn
    subst hn
    exact ⟨⟨r, []⟩, none, 0, rfl, RowI.nil⟩
  · simp only [List.cons.injEq, and_true] at hcs
    simp only [if_true] at hz
    subst hcs
    refine ⟨⟨r, zs.take len⟩, some a, cap, by simp [cnV]; omega, fun j x hj => ?_⟩
    have hjl : j < len := by
      have := (List.getElem?_eq_some_iff.1 hj).1
      simp at this
      omega
    have hs : a.spot = none := by
      have := World.cell?_spot (hcell 0 (by omega))
      simpa [Addr.add] using this
    have hc := hcell j (by omega)
    rw [add_none a hs] at hc
    rw [List.getElem?_take, if_pos hjl] at hj
    refine ⟨a.block, a.off, by cases a; simp at hs; simp [hs], ?_⟩
    rw [hc, List.getD_eq_getElem?_getD, hj]
    rfl
end
end Go.Proofs.Ytogdhkecpjndlaa.C
