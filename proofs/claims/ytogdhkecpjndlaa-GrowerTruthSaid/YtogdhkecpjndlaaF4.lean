/- Takes whose waiting operations are given (so that the check is light). -/
import Derived.Test.YtogdhkecpjndlaaGF
set_option linter.unusedSimpArgs false
set_option linter.unusedVariables false
namespace Go.Proofs.Ytogdhkecpjndlaa.C
open Go.RowKit
section
variable {P : Program} {md : Region.Mode} {l : List Oper} {Q : Exit → Act → World → Prop} {S : World → Prop} {m : Nat}
theorem wpAnyU_take4 {i : Nat} {oi : Oper} {v : Value} {fuel : Nat} {listed : Array Bool} {a : Act} {w : World} (nd : Array Bool) (hi : l[i]? = some oi)
    (hk : (Region.noSelect l.toArray && (needB md l.toArray m i listed nd && (Region.free md l.toArray listed i && (Region.ready md l.toArray listed).contains i))) = true)
    (hQ : ∀ c a w, Q (.panic c) (a.put oi.dst v) w → Q (.panic c) a w) (hS : S w) (hy : YieldsIf P l.toArray S oi v a)
    (h : wpAnyT P md l.toArray Q S m fuel (listed.setIfInBounds i true) (a.put oi.dst v) w) : wpAnyT P md l.toArray Q S m (fuel + 1) listed a w := by
  simp only [Bool.and_eq_true] at hk
  obtain ⟨hs, hN, hf, hr⟩ := hk
  obtain ⟨n1, n2, n3⟩ := needB_spec hN
  have hi' : l.toArray[i]? = some oi := by simpa using hi
  exact wpAnyU_first (fun k => nd.getD k false) hi' (Region.noSelect_spec hs) n1 n2 hQ fuel listed a w (Region.free_spec hi' hf) n3 (by simpa using hr) hy hS h
theorem wpAnyU_takes4 {i : Nat} {oi : Oper} {fuel : Nat} {listed : Array Bool} {a : Act} {w : World} (nd : Array Bool) (hi : l[i]? = some oi)
    (hk : (Region.noSelect l.toArray && (needB md l.toArray m i listed nd && (Region.free md l.toArray listed i && (Region.ready md l.toArray listed).contains i))) = true)
    (hQ : ∀ v c a w, Q (.panic c) (a.put oi.dst v) w → Q (.panic c) a w) (hS : S w)
    (h : ∃ v, YieldsIf P l.toArray S oi v a ∧ wpAnyT P md l.toArray Q S m fuel (listed.setIfInBounds i true) (a.put oi.dst v) w) : wpAnyT P md l.toArray Q S m (fuel + 1) listed a w := by
  obtain ⟨v, hy, h⟩ := h
  exact wpAnyU_take4 nd hi hk (hQ v) hS hy h
end
end Go.Proofs.Ytogdhkecpjndlaa.C
