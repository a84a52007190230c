/- Cuts behind drawn regions: what is in hand, told anew. -/
import Derived.Test.YtdhincmlefpfkaaC29
set_option linter.unusedVariables false
set_option linter.unusedSimpArgs false
namespace Go.BM
open Go.RowKit
section
variable {P : Program} {n B : Nat} {c : Code} {Q : Exit → Env → AH → Prop} {e : Env} {H : AH} {f : FuncId} {args : List Value} {k : Value → AH → Prop} {os : List (Value × Value × List Nat)} {bs : List (Nat × Blk)} {b : Blk}
theorem AWp.absb (hc : Cx H os bs) (h : ∀ H', Cx H' os ((H.length, b) :: bs) → AWp P n B c Q e H') : AWp P n B c Q e (H ++ [b]) := h _ (hc.push b)
theorem ACalls.absbL (hc : Cx H os bs) (h : ∀ H', H'.length = H.length + 1 → Cx H' os ((H.length, b) :: bs) → ACalls P B f args H' k) : ACalls P B f args (H ++ [b]) k := h _ (by simp) (hc.push b)
/-- Behind a cut: a thing more in hand, and a box that holds it. -/
def CxE (hc : Cx H os bs) (q : Nat) (T : TypeId) (v : Value) (sh : List Value → Prop) (e' : Env) (H' : AH) : Prop :=
  ∃ (r : Nat) (xs : List Value) (S : List Nat), e' q = .pointer (some ⟨r, 0, some 0⟩) ∧ sh xs ∧ Cx H' (os ++ [(.agg xs.toArray, v, S)]) ((r, ⟨T, 0, xs, 0, true⟩) :: bs)
end
end Go.BM
