/- Whether a law can use a ledger; the count with a number, drawn in a law. -/
import Derived.Test.YtogdhkecpjndlaaQ3
import Derived.Test.YtogdhkecpjndlaaW1
set_option linter.unusedSimpArgs false
set_option linter.unusedVariables false
namespace Go.Proofs.Ytogdhkecpjndlaa.C
open Go.RowKit
set_option maxRecDepth 100000

def readyB (l : Led) : Bool := thin l && decide (fault l = 0)
theorem readyB_iff {l : Led} (h : readyB l = true) : l.gs.length ≤ 30 ∧ l.cs.length ≤ 30 ∧ fault l = 0 ∧ Valid l := by
  unfold readyB thin at h
  simp only [Bool.and_eq_true, decide_eq_true_eq] at h
  exact ⟨h.1.1, h.1.2, h.2, valid_of h.2⟩
theorem LBox.one {w : World} {l : Led} {A C : Option Addr} {cA cC : Nat} : LBox (w.alloc (.cells (cells4 l A C cA cC) 27)) w.heap.size l A C cA cC := LBox.of (Blk.new _ _ _)

set_option maxHeartbeats 4000000 in
theorem ready_c {l : Led} {A C : Option Addr} {cA cC : Nat} {w : World} (hL : LedR w l A C) :
    Calls Try.prog 39 #[ledV l A C cA cC] w fun e w' => e = .returned (.bool (readyB l)) ∧ G w w' := by
  have HL := Lib.hid hL
  clear hL
  cases ht : thin l
  · have HR := Lib.hid (show readyB l = false by simp [readyB, ht])
    go_enter Try.func39, Try.ntmps39
    go_wp2_with fail
    have hB : G w (w.alloc (.cells #[.int .i64 l.lo, .int .i64 l.hi, .slice A l.gs.length cA, .slice C l.cs.length cC] 27)) := (G.refl _).alloc _
    generalize w.alloc _ = W at *
    refine (Thin_c l A C cA cC W).mono ?_
    rw [ht]
    rintro e w1 ⟨rfl, hb1⟩
    clear ht
    go_wp2_with fail
    go_ret
    exact ⟨ret_b HR.out.symm, hB.trans hb1⟩
  · have hthin : l.gs.length ≤ 30 ∧ l.cs.length ≤ 30 := by simpa [thin] using ht
    have HR := Lib.hid (show readyB l = decide (fault l = 0) by simp [readyB, ht])
    go_enter Try.func39, Try.ntmps39
    go_wp2_with fail
    have hB : G w (w.alloc (.cells #[.int .i64 l.lo, .int .i64 l.hi, .slice A l.gs.length cA, .slice C l.cs.length cC] 27)) := (G.refl _).alloc _
    have k := LBox.one (w := w) (l := l) (A := A) (C := C) (cA := cA) (cC := cC)
    generalize w.alloc _ = W at *
    refine (Thin_c l A C cA cC W).mono ?_
    rw [ht]
    rintro e w1 ⟨rfl, hb1⟩
    clear ht
    obtain ⟨s0, s1, s2, s3⟩ := k.grow hb1
    clear k
    go_wp2_with fail
    refine (fault_c l A C cA cC w1 (HL.out.grow (hB.trans hb1)) hthin.1 hthin.2).mono ?_
    rintro e w2 ⟨rfl, hb2⟩
    by_cases hf : fault l = 0
    · have HR2 := Lib.hid (show readyB l = true by rw [HR.out]; simp [hf])
      have hfb : (fault l == 0) = true := by simp [hf]
      clear hf
      go_wp2_with fail
      go_ret
      exact ⟨ret_b HR2.out.symm, hB.trans (hb1.trans hb2)⟩
    · have HR2 := Lib.hid (show readyB l = false by rw [HR.out]; simp [hf])
      have hfb : (fault l == 0) = false := by simp [hf]
      clear hf
      go_wp2_with fail
      go_ret
      exact ⟨ret_b HR2.out.symm, hB.trans (hb1.trans hb2)⟩

def SN (n0 n7 : Nat) (l : Led) (A C : Option Addr) (cA cC : Nat) (c : Cn) (B : Option Addr) (cB : Nat) (w : World) : Prop := LBox w n0 l A C cA cC ∧ CBox w n7 c B cB
theorem SN.grow {n0 n7 : Nat} {l : Led} {A C : Option Addr} {cA cC : Nat} {c : Cn} {B : Option Addr} {cB : Nat} {w w1 : World} (h : SN n0 n7 l A C cA cC c B cB w) (g : G w w1) : SN n0 n7 l A C cA cC c B cB w1 := ⟨h.1.grow g, h.2.grow g⟩
theorem nth_ok {l : Led} (hV : Valid l) {a : Int} (h0 : 0 ≤ a) : isCnt l (nthC l (a % manyL l)) = true := by
  have hm := manyL_pos hV
  have h1 := mod_bd (m := a) hm.1
  obtain ⟨q, hq⟩ : ∃ q : Nat, a % manyL l = q := ⟨(a % manyL l).toNat, by omega⟩
  rw [hq]
  exact nthC_mem hV (by omega)
end Go.Proofs.Ytogdhkecpjndlaa.C
