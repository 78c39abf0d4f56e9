/- Plain: a ledger whose claims are drawn around a count by words; the count is one of its truths. -/
import Derived.Test.YtogdhkecpjndlaaQ9
import Derived.Test.YtogdhkecpjndlaaW3
set_option linter.unusedSimpArgs false
set_option linter.unusedVariables false
namespace Go.Proofs.Ytogdhkecpjndlaa.C
open Go.RowKit

def wordN (ws : List Int) (at' : Nat) : Nat := (ws.getD (at' % ws.length) 0).toNat
theorem wordN_nil (at' : Nat) : wordN [] at' = 0 := by simp [wordN]
def maxM (y : Int) : Int := if -999 < y then y else -999
def claimG (l : Led) (ws : List Int) (i : Nat) : Nat := wordN ws (2 * i + 1) % l.gs.length
def claimK (ws : List Int) (i : Nat) : Nat := wordN ws (2 * i + 2)
def claimAt (l : Led) (c : Cn) (ws : List Int) (i : Nat) : T3 := ⟨(claimG l ws i : Int), maxM (owed l c (claimG l ws i) - ((claimK ws i % 3 : Nat) : Int)), owed l c (claimG l ws i) + ((claimK ws i / 3 % 3 : Nat) : Int)⟩
def claimsTo (l : Led) (c : Cn) (ws : List Int) (i : Nat) : List T3 := (List.range i).map (claimAt l c ws)
def claimN (l : Led) (ws : List Int) : Nat := if l.gs.length = 0 then 0 else wordN ws 0 % 6
def claimedL (l : Led) (c : Cn) (ws : List Int) : Led := withC l (claimsTo l c ws (claimN l ws))
theorem claimsTo_succ (l : Led) (c : Cn) (ws : List Int) (i : Nat) : claimsTo l c ws (i + 1) = claimsTo l c ws i ++ [claimAt l c ws i] := by
  unfold claimsTo
  rw [List.range_succ, List.map_append]
  rfl
theorem claimsTo_len (l : Led) (c : Cn) (ws : List Int) (i : Nat) : (claimsTo l c ws i).length = i := by simp [claimsTo]
theorem claimN_le (l : Led) (ws : List Int) : claimN l ws ≤ 5 := by unfold claimN; split <;> omega
theorem claim_in {l : Led} {c : Cn} (hV : Valid l) (hK : CntOk l c) (ws : List Int) (i : Nat) (hn : l.gs.length ≠ 0) : 0 ≤ (claimAt l c ws i).a ∧ (claimAt l c ws i).a < l.gs.length ∧ -999 ≤ (claimAt l c ws i).lo ∧ (claimAt l c ws i).lo ≤ (claimAt l c ws i).hi ∧ (claimAt l c ws i).hi ≤ 999 ∧ rightC l c (claimAt l c ws i) = true := by
  have hg : claimG l ws i < l.gs.length := Nat.mod_lt _ (by omega)
  have ho := owed_bd hV hK (claimG l ws i)
  have h1 : claimK ws i % 3 < 3 := Nat.mod_lt _ (by omega)
  have h2 : claimK ws i / 3 % 3 < 3 := Nat.mod_lt _ (by omega)
  have hm : maxM (owed l c (claimG l ws i) - ((claimK ws i % 3 : Nat) : Int)) ≤ owed l c (claimG l ws i) ∧ -999 ≤ maxM (owed l c (claimG l ws i) - ((claimK ws i % 3 : Nat) : Int)) := by
    unfold maxM
    split <;> omega
  unfold claimAt
  refine ⟨by simp, by simp; omega, hm.2, by simp only []; omega, by simp only []; omega, ?_⟩
  unfold rightC
  exact inB_iff.2 ⟨by simpa using hm.1, by simp only [Int.toNat_natCast]; omega⟩
theorem claimed_valid {l : Led} {c : Cn} (hV : Valid l) (hK : CntOk l c) (ws : List Int) : Valid (claimedL l c ws) := by
  refine ⟨hV.ng, ?_, hV.r0, hV.r1, hV.r2, hV.g, fun y hy => ?_, hV.m⟩
  · show (claimsTo l c ws (claimN l ws)).length ≤ 5
    rw [claimsTo_len]
    exact claimN_le l ws
  · have hy2 : y ∈ claimsTo l c ws (claimN l ws) := hy
    unfold claimsTo at hy2
    obtain ⟨i, hi, rfl⟩ := List.mem_map.1 hy2
    have hn : l.gs.length ≠ 0 := by
      intro h
      have := List.mem_range.1 hi
      unfold claimN at this
      rw [if_pos h] at this
      omega
    obtain ⟨a, b, c1, d, e, -⟩ := claim_in hV hK ws i hn
    exact ⟨a, b, c1, d, e⟩
theorem claimed_truth {l : Led} {c : Cn} (hV : Valid l) (hC : isCnt l c = true) (ws : List Int) : c ∈ truthsL (claimedL l c ws) := by
  have hK := cntOk_of hV hC
  refine truth_of.2 ⟨hC, List.all_eq_true.2 fun y hy => ?_⟩
  have hy2 : y ∈ claimsTo l c ws (claimN l ws) := hy
  unfold claimsTo at hy2
  obtain ⟨i, hi, rfl⟩ := List.mem_map.1 hy2
  have hn : l.gs.length ≠ 0 := by
    intro h
    have := List.mem_range.1 hi
    unfold claimN at this
    rw [if_pos h] at this
    omega
  exact (claim_in hV hK ws i hn).2.2.2.2.2
/-- What the program tells of a ledger with a truth, at this truth. -/
theorem at_truth {x : Led} {c : Cn} (hX : Valid x) (h : c ∈ truthsL x) : askErr x true = 0 ∧ leaveL x = [] ∧ (firstL x).2 = 7 ∧ isCnt x c = true ∧ CntOk x c ∧ proveB x c = true ∧ (rateL x).1 ≤ c.r ∧ c.r ≤ (rateL x).2 ∧ ∀ k, (dueB x k).1 ≤ owed x c k ∧ owed x c k ≤ (dueB x k).2 := by
  have hne := List.ne_nil_of_mem h
  have ha := askErr_of hX hne
  obtain ⟨hc, hr⟩ := truth_of.1 h
  refine ⟨ha, leave_none hX hne, first_none_of hX hne, hc, cntOk_of hX hc, ?_, ((rate_ends ha).2.2 c h).1, ((rate_ends ha).2.2 c h).2, fun k => (due_ends ha k).2.2 c h⟩
  unfold proveB
  rw [rightBut_nil, hr]
  unfold cErr
  rw [if_pos (fault_of hX), hc]
  rfl
end Go.Proofs.Ytogdhkecpjndlaa.C
