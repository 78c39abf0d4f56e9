/- The laws' arguments opened: a ledger whose lists fit into memory, a claim, words. -/
import Derived.Test.YtogdhkecpjndlaaK0
set_option linter.unusedSimpArgs false
set_option linter.unusedVariables false
namespace Go.Proofs.Ytogdhkecpjndlaa.C
open Go.ChangeShapes Go.WideShapes Go.ChangeAt Go.RowKit Go.Joins Go.Deep
set_option maxRecDepth 100000
section
variable {H : Type} {enc : TypeId × Value → H} {w : World}
theorem bytes97 : Try.prog.bytesOf 97 = 24 := by kernel_rfl
theorem open_led2 {v : Value} {d : DataW H} {p : List MemPlace} {base : Nat} (hv : Value.okWide Try.prog w .any base 27 v) (h : DataW.Trod enc Try.prog w 0 (fun _ => true) true 27 v d p)
    (hz : ∀ n ∈ DataW.weights Try.prog 27 d, n ≤ reachBytes) :
    ∃ l A C cA cC, v = ledV l A C cA cC ∧ LedR w l A C ∧ l.cs.length * 24 ≤ 140737488351232 := by
  obtain ⟨cs, rfl, hsz⟩ := okWide_struct Try.underlying27 hv
  obtain ⟨c0, c1, c2, c3, rfl⟩ := array4 (hsz.trans hC27)
  obtain ⟨fuel, hf⟩ := h
  obtain ⟨y0, y1, y2, n, hy, -, h0, h1, h2⟩ := trod_struct3 Try.underlying27 hf
  obtain ⟨lo, hi, rfl, rfl⟩ := open_rng (enc := enc) (w := w) (n := n) (y := y0) h0
  obtain ⟨A, cA, gs, rfl, hA, -⟩ := open_threes (enc := enc) (w := w) (n := n) (y := y1) Try.underlying24 Try.underlying86 ⟨rfl, rfl⟩ ⟨rfl, rfl⟩ hC86 h1
  obtain ⟨C, cC, cs, rfl, hC, -⟩ := open_threes (enc := enc) (w := w) (n := n) (y := y2) Try.underlying25 Try.underlying97 ⟨rfl, rfl⟩ ⟨rfl, rfl⟩ hC97 h2
  refine ⟨⟨lo, hi, gs, cs⟩, A, C, cA, cC, rfl, ⟨hA, hC⟩, ?_⟩
  show cs.length * 24 ≤ _
  rcases open_slice (enc := enc) (w := w) (base := 0) (spare := fun _ => true) (held := true) (fuel := n) (x := y2) Try.underlying25 h2 with ⟨hn, -⟩ | ⟨a, len, cap, m, k, D, Pl, hcs, -, -, -, -, hx, -⟩
  · have : cs.length = 0 := by
      have h5 : [Value.slice C cs.length cC] = [Value.slice none 0 0] := hn
      simp at h5
      simp [h5.2.1]
    omega
  · have h5 : [Value.slice C cs.length cC] = [Value.slice (some a) len cap] := hcs
    simp at h5
    have h6 := congrArg Prod.fst hy
    simp only at h6
    subst h6
    rw [hx] at hz
    have h7 := hz ((len + (m - len)) * 24) (by
      simp [DataW.weights, DataW.weightsEach, Try.underlying27, Try.underlying25, bytes97])
    unfold reachBytes at h7
    omega
theorem open_claim {v : Value} {d : DataW H} {p : List MemPlace} {base : Nat} (hv : Value.okWide Try.prog w .any base 97 v) (h : DataW.Trod enc Try.prog w 0 (fun _ => true) true 97 v d p) :
    ∃ m : T3, v = .agg #[.int .i64 m.a, .int .i64 m.lo, .int .i64 m.hi] := by
  obtain ⟨cs, rfl, hsz⟩ := okWide_struct Try.underlying97 hv
  obtain ⟨c0, c1, c2, rfl⟩ := array3 (hsz.trans hC97)
  obtain ⟨fuel, hf⟩ := h
  obtain ⟨y0, y1, n, -, -, h0, h1⟩ := trod_struct2 Try.underlying97 hf
  obtain ⟨a, e0, -⟩ := DataW.trod_int und3 h0
  have e0' : c0 = .int .i64 a := by simpa [cellsOf3, Value.cells] using e0
  obtain ⟨lo, hi, rfl, rfl⟩ := open_rng (enc := enc) (w := w) (n := n) (y := y1) h1
  subst e0'
  exact ⟨⟨a, lo, hi⟩, rfl⟩
theorem cellsOf64 : Try.prog.cellsOf 64 = 1 := by kernel_rfl
def RowW (w : World) (A : Option Addr) (xs : List Int) : Prop :=
  ∀ j x, xs[j]? = some x → ∃ b off, A = some ⟨b, off, none⟩ ∧ w.cell? ⟨b, off + j, none⟩ = some (.int .u16 x)
theorem open_words {v : Value} {d : DataW H} {p : List MemPlace} {base : Nat} (hv : Value.okWide Try.prog w .any base 72 v) (h : DataW.Trod enc Try.prog w 0 (fun _ => true) true 72 v d p) :
    ∃ A ws cap, v = .slice A ws.length cap ∧ RowW w A ws ∧ ws.length ≤ maxLen ∧ ∀ x ∈ ws, 0 ≤ x ∧ x ≤ 65535 := by
  obtain ⟨a0, len0, cap0, rfl⟩ := okWide_slice Try.underlying72 hv
  obtain ⟨fuel, hf⟩ := h
  have hf' : DataW.trod enc Try.prog w 0 (fun _ => true) true fuel 72 [.slice a0 len0 cap0] = some (d, p) := hf
  rcases open_ints Try.underlying72 Try.underlying64 cellsOf64 hf' with ⟨hn, -⟩ | ⟨a, len, cap, zs, hcs, -, hl, hmx, hz, -, hcell, hwf⟩
  · have e : Value.slice a0 len0 cap0 = .slice none 0 0 := by simpa using hn
    exact ⟨none, [], 0, e, fun j x h => by simp at h, by simp [maxLen], fun x h => by simp at h⟩
  · have e : Value.slice a0 len0 cap0 = .slice (some a) len cap := by simpa using hcs
    simp only [if_true] at hz
    refine ⟨some a, zs.take len, cap, by rw [e]; simp; omega, fun j x hj => ?_, by simp; omega, fun x hx => ?_⟩
    · have hjl : j < len := by
        have := (List.getElem?_eq_some_iff.1 hj).1
        simp at this
        omega
      have hs : a.spot = none := by
        have := World.cell?_spot (hcell 0 (by omega))
        simpa [Addr.add] using this
      have hc := hcell j (by omega)
      rw [add_none a hs] at hc
      rw [List.getElem?_take, if_pos hjl] at hj
      refine ⟨a.block, a.off, by cases a; simp at hs; simp [hs], ?_⟩
      rw [hc, List.getD_eq_getElem?_getD, hj]
      rfl
    · have := hwf x (List.mem_of_mem_take hx)
      simpa [Lit.wf, IntKind.min, IntKind.max, IntKind.signed, IntKind.bits] using this
end
end Go.Proofs.Ytogdhkecpjndlaa.C
