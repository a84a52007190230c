/- Votes: their fault, how many there are for a thing. -/
import Derived.Test.YticajcenbhbglaaT2
import Derived.Test.YticajcenbhbglaaT8
import Derived.Test.YticajcenbhbglaaG5
import Derived.Test.YticajcenbhbglaaU2
set_option linter.unusedVariables false
set_option linter.unusedSimpArgs false
set_option maxRecDepth 100000
set_option maxHeartbeats 4000000
namespace Go.BM
open Go.Proofs Go.RowKit
attribute [local irreducible] ACalls AWp aops qops optK optP cK gateA condK mops qcallK PCalls loadV fldV idxV lenV slV storeH binS
def voteFault (x : TVote) : Int :=
  if x.kind == 1 then (if !(x.ref.tx == 0 && x.ref.at' == 0) || !(x.tx == 0) then 1 else if !inB x.key 1 999 || !inB x.block 1 60 then 3 else 0)
  else if x.kind == 2 then (if !(x.block == 0) then 1 else if !inB x.key 1 999 || !(refB x.ref && inB x.tx 1 60) then 3 else 0)
  else 1
def sameVote (a b : TVote) : Bool := a.key == b.key && (a.kind == b.kind && (a.block == b.block && ((a.ref.tx == b.ref.tx && a.ref.at' == b.ref.at') && a.tx == b.tx)))
def withKey (x : TVote) (k : Int) : TVote := ⟨k, x.kind, x.block, x.ref, x.tx⟩
def votedB (vs : List TVote) (x : TVote) (k : Int) : Bool := vs.any fun y => sameVote (withKey x k) y
def countL (vs : List TVote) (ks : List Int) (x : TVote) : Nat := (ks.filter fun k => votedB vs x k).length
theorem countL_step (vs : List TVote) (ks : List Int) (x : TVote) (k : Nat) (hk : k < ks.length) : countL vs (ks.take (k + 1)) x = if votedB vs x ks[k] then countL vs (ks.take k) x + 1 else countL vs (ks.take k) x := by
  unfold countL
  rw [filter_step _ ks k hk]
  split <;> simp
theorem countL_le (vs : List TVote) (ks : List Int) (x : TVote) : countL vs ks x ≤ ks.length := List.length_filter_le _ _
theorem sameVote_comm (a b : TVote) : sameVote a b = sameVote b a := by
  unfold sameVote
  rw [Bool.beq_comm (a := a.key), Bool.beq_comm (a := a.kind), Bool.beq_comm (a := a.block), Bool.beq_comm (a := a.ref.tx), Bool.beq_comm (a := a.ref.at'), Bool.beq_comm (a := a.tx)]
def countF (vs : List TVote) (q : TQuorum) (x : TVote) : TIntResult :=
  if !(quorumFault q.keys q.need == 0) then ⟨quorumFault q.keys q.need, 0⟩ else if !(voteFault x == 0) then ⟨voteFault x, 0⟩ else if decide ((100 : Int) < (vs.length : Int)) then ⟨2, 0⟩ else ⟨0, (countL vs q.keys x : Nat)⟩
def lockedF (vs : List TVote) (q : TQuorum) (x : TVote) : Bool := (countF vs q x).code == 0 && decide (q.need ≤ (countF vs q x).value)
end Go.BM
