/- ChooseFor: both sides. -/
import Derived.Test.YticajcenbhbglaaT3
import Derived.Test.YticajcenbhbglaaT24
import Derived.Test.YticajcenbhbglaaU2
set_option linter.unusedVariables false
set_option linter.unusedSimpArgs false
set_option maxRecDepth 100000
set_option maxHeartbeats 4000000
namespace Go.BM
open Go.Proofs Go.RowKit
attribute [local irreducible] ACalls AWp aops qops optK optP cK gateA condK mops qcallK PCalls loadV fldV idxV lenV slV storeH binS
def chAt (v : TVoter) (r : TRef) : Int := findI (fun y => sameRef y.ref r) v.choices
def chTx (v : TVoter) (r : TRef) : Int := if chAt v r < 0 then 0 else ((v.choices[(chAt v r).toNat]?).getD ⟨⟨0, 0⟩, 0⟩).tx
def chooseF (v : TVoter) (r : TRef) (tx : Int) : TVoterResult :=
  if chAt v r < 0 then (if 40 ≤ v.choices.length then ⟨2, ⟨0, 0, 0, ⟨0, 0⟩, 0⟩, ⟨0, 0, []⟩⟩ else ⟨0, ⟨v.key, 2, 0, r, tx⟩, ⟨v.key, v.last, v.choices ++ [⟨r, tx⟩]⟩⟩)
  else if chTx v r == tx then ⟨0, ⟨v.key, 2, 0, r, tx⟩, v⟩ else ⟨7, ⟨0, 0, 0, ⟨0, 0⟩, 0⟩, ⟨0, 0, []⟩⟩
def chooseForF (v : TVoter) (r : TRef) (tx : Int) : TVoterResult :=
  if voterFault v == 0 then (if !refB r || !inB tx 1 60 then ⟨3, ⟨0, 0, 0, ⟨0, 0⟩, 0⟩, ⟨0, 0, []⟩⟩ else chooseF v r tx) else ⟨voterFault v, ⟨0, 0, 0, ⟨0, 0⟩, 0⟩, ⟨0, 0, []⟩⟩
theorem nR_ChooseFor (v : TVoter) (r : TRef) (tx : Int) (hv : nVoter v ≤ 1048576) : nVoterResult (chooseForF v r tx) ≤ 1048576 := by
  unfold chooseForF chooseF
  repeat' split
  all_goals simp [nVoterResult, nVoter] at *
  all_goals omega
theorem chGo_zero : ∀ (xs pre : List TChoice), chGo pre xs = 0 → ∀ y ∈ xs, refB y.ref = true ∧ inB y.tx 1 60 = true
  | [], pre, _ => by simp
  | x :: l, pre, h => by
    unfold chGo at h
    split at h
    · cases h
    · rename_i hc
      split at h
      · cases h
      · have ih := chGo_zero l _ h
        intro y hy
        rcases List.mem_cons.1 hy with rfl | hy
        · simp at hc; exact hc
        · exact ih y hy
theorem voterFault_zero {v : TVoter} (h : voterFault v = 0) : v.choices.length ≤ 40 ∧ ∀ y ∈ v.choices, refB y.ref = true ∧ inB y.tx 1 60 = true := by
  unfold voterFault at h
  split at h
  · cases h
  · split at h
    · cases h
    · rename_i h2
      exact ⟨by simp at h2; omega, chGo_zero _ _ h⟩
theorem chAt_at {v : TVoter} {r : TRef} (h : ¬ chAt v r < 0) : ∃ (k : Nat) (hk : k < v.choices.length), chAt v r = k ∧ chTx v r = (v.choices[k]).tx := by
  obtain ⟨k, hk, e, _⟩ := findI_spec (fun y => sameRef y.ref r) v.choices (by unfold chAt at h; omega)
  refine ⟨k, hk, e, ?_⟩
  unfold chTx
  rw [if_neg h]
  unfold chAt
  rw [e]
  simp [List.getElem?_eq_getElem hk]
end Go.BM
