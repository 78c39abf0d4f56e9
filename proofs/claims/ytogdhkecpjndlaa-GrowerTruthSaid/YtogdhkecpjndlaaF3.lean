/- Takes whose operation is found in the list itself (so that the frame stays plain). -/
import Derived.Test.YtogdhkecpjndlaaGF
set_option linter.unusedSimpArgs false
set_option linter.unusedVariables false
namespace Go.Proofs.Ytogdhkecpjndlaa.C
open Go.RowKit
section
variable {P : Program} {md : Region.Mode} {l : List Oper} {Q : Exit → Act → World → Prop} {S : World → Prop} {m : Nat}
theorem wpAnyU_take' {i : Nat} {oi : Oper} {v : Value} {fuel : Nat} {listed : Array Bool} {a : Act} {w : World} (hi : l[i]? = some oi)
    (hk : (Region.noSelect l.toArray && (needB md l.toArray m i listed (needsOf md l.toArray i) && (Region.free md l.toArray listed i && (Region.ready md l.toArray listed).contains i))) = true)
    (hQ : ∀ c a w, Q (.panic c) (a.put oi.dst v) w → Q (.panic c) a w) (hS : S w) (hy : YieldsIf P l.toArray S oi v a)
    (h : wpAnyT P md l.toArray Q S m fuel (listed.setIfInBounds i true) (a.put oi.dst v) w) : wpAnyT P md l.toArray Q S m (fuel + 1) listed a w :=
  wpAnyU_take (by simpa using hi) hk hQ hS hy h
theorem wpAnyU_takes' {i : Nat} {oi : Oper} {fuel : Nat} {listed : Array Bool} {a : Act} {w : World} (hi : l[i]? = some oi)
    (hk : (Region.noSelect l.toArray && (needB md l.toArray m i listed (needsOf md l.toArray i) && (Region.free md l.toArray listed i && (Region.ready md l.toArray listed).contains i))) = true)
    (hQ : ∀ v c a w, Q (.panic c) (a.put oi.dst v) w → Q (.panic c) a w) (hS : S w)
    (h : ∃ v, YieldsIf P l.toArray S oi v a ∧ wpAnyT P md l.toArray Q S m fuel (listed.setIfInBounds i true) (a.put oi.dst v) w) : wpAnyT P md l.toArray Q S m (fuel + 1) listed a w :=
  wpAnyU_takes (by simpa using hi) hk hQ hS h
theorem wpAnyT_one' {i : Nat} {o : Oper} {fuel : Nat} {listed : Array Bool} {a : Act} {w : World} (hr : Region.ready md l.toArray listed = [i]) (ho : l[i]? = some o)
    (h : wpList P l.toArray (Exit.then (fun a' w' => S w' ∧ wpAnyT P md l.toArray Q S m fuel (listed.setIfInBounds i true) a' w') Q) [o] a w) : wpAnyT P md l.toArray Q S m (fuel + 1) listed a w :=
  wpAnyT_one hr (by simpa using ho) h
end
end Go.Proofs.Ytogdhkecpjndlaa.C
