/- Clusters: what is wrong with them; the reference. -/
import Derived.Test.YticajcenbhbglaaT3
import Derived.Test.YticajcenbhbglaaT6
import Derived.Test.YticajcenbhbglaaT8B
import Derived.Test.YticajcenbhbglaaT18
import Derived.Test.YticajcenbhbglaaT25
import Derived.Test.YticajcenbhbglaaC39
set_option linter.unusedVariables false
set_option linter.unusedSimpArgs false
set_option maxRecDepth 100000
set_option maxHeartbeats 4000000
namespace Go.BM
open Go.Proofs Go.RowKit
attribute [local irreducible] ACalls AWp aops qops optK optP cK gateA condK mops qcallK PCalls loadV fldV idxV lenV slV storeH binS
def goodL (ks bs : List Int) : List Int := ks.filter fun k => !(bs.any fun y => k == y)
def badFault (xs : List Int) : Int := if !keysB xs then 3 else if !risB xs then 1 else 0
def sameKeys (vs : List TVoter) (ks : List Int) : Bool := vs.map (·.key) == ks
def votersFault (c : TCluster) : Int := if !sameKeys c.voters (goodL c.quorum.keys c.bad) then 1 else scanK (fun _ v => voterFault v) 0 [] c.voters
def vtAt (c : TCluster) (key : Int) : Int := findI (fun v => v.key == key) c.voters
def vtr (c : TCluster) (i : Int) : TVoter := (c.voters[i.toNat]?).getD ⟨0, 0, []⟩
def stands (c : TCluster) (x : TVote) : Bool :=
  if vtAt c x.key < 0 then true else if x.kind == 1 then above c.tree x.block (vtr c (vtAt c x.key)).last else !decide (chAt (vtr c (vtAt c x.key)) x.ref < 0) && chTx (vtr c (vtAt c x.key)) x.ref == x.tx
def voteF (c : TCluster) (pre : List TVote) (x : TVote) : Int :=
  if !(voteFault x == 0) then voteFault x else if !(c.quorum.keys.any fun y => x.key == y) then 4 else if pre.any (fun y => sameVote y x) then 7 else if !stands c x then 6 else 0
def dupF (pre : List Int) (a : Int) : Int := if pre.any (fun y => a == y) then 7 else 0
def heardF (n : Int) (l : List Int) : Int := if l.any (fun a => !inB a 0 (n - 1)) then 3 else scanK dupF 0 [] l
def clusterFault (c : TCluster) : Int :=
  if !(quorumFault c.quorum.keys c.quorum.need == 0) then quorumFault c.quorum.keys c.quorum.need
  else if decide ((20 : Int) < (c.bad.length : Int)) || decide ((100 : Int) < (c.votes.length : Int)) || decide ((c.heard.length : Int) < 1) || decide ((4 : Int) < (c.heard.length : Int)) then 2
  else if !(badFault c.bad == 0) then badFault c.bad
  else if !(treeFault c.tree == 0) then treeFault c.tree
  else if !(votersFault c == 0) then votersFault c
  else if !(scanK (voteF c) 0 [] c.votes == 0) then scanK (voteF c) 0 [] c.votes
  else scanK (fun _ l => heardF c.votes.length l) 0 [] c.heard
theorem goodL_len (ks bs : List Int) : (goodL ks bs).length ≤ ks.length := List.length_filter_le _ _
theorem goodL_step (ks bs : List Int) (k : Nat) (hk : k < ks.length) : goodL (ks.take (k + 1)) bs = if (bs.any fun y => ks[k] == y) then goodL (ks.take k) bs else goodL (ks.take k) bs ++ [ks[k]] := by
  unfold goodL
  rw [filter_step _ ks k hk]
  cases (bs.any fun y => ks[k] == y) <;> simp
theorem spec_l12Bad (xs : List Int) (hn : xs.length ≤ 1000000000000) : PCalls Try.prog 20 [islE intE xs] (.int .i64 (badFault xs)) := by
  refine PCalls.flat rfl ?_; refine ACalls.enter (n := 33) (rs := [.tmp 2]) Try.func20 rfl rfl rfl (by kernel_rfl) (by kernel_rfl) (by kernel_rfl) (Nat.le_of_ble_eq_true rfl) ?_
  repeat' (first | (refine AWp.quiet (id := 9) (by kernel_rfl) (by kernel_rfl) ?_) | (refine KV.run _ ?_) | (refine KQ.run _ ?_) | (refine KT.run _ ?_) | (refine AWp.seqH fun KC => ?_) | (refine AWp.block ?_) | (refine AWp.region ?_) | (refine mops_step0 rfl rfl fun KC => ?_) | (refine mops_step1 rfl fun KC => ?_) | (refine mops_step2 rfl fun KC => ?_) | (refine AWp.ret ?_) | (refine AWp.skip ?_) | (refine AWp.exit ?_) | (refine aops_callH rfl fun kC => ?_) | (refine qops_callH rfl fun kC => ?_) | (refine AWp.condB ?_) | (simp only [bse, wk, tys, storeH_ptr, Nat.reduceEqDiff, ↓reduceIte, reduceCtorEq, Nat.reduceAdd, Nat.reduceLeDiff, Int.reduceBEq, Int.reduceLT, Int.reduceLE, Int.reduceEq, ne_eq, not_false_eq_true, Nat.reduceMul, quorumE_val, quorumE_sz, voterE_val, voterE_sz, choiceE_val, choiceE_sz, refE_val, refE_sz, voteE_val, voteE_sz, nodeE_val, nodeE_sz, sliceE_val, sliceE_sz, clusterE_val, clusterE_sz, idxE_eq, *]) | (refine condK_bool (fun hb => ?_) (fun hb => ?_) <;> ((try simp only [Bool.not_eq_true', Bool.not_eq_false'] at hb) <;> (try (have hbe := of_decide_eq_true hb)) <;> (try (have hbe := eq_of_beq hb)))) | (refine aops_partB ?_) | (refine qops_partB ?_))
  refine AWp.loopH [5, 6, 7, 8, 11, 12, 13, 14, 15, 16, 2, 9, 10, 3] (fun m e' H' => ∃ k : Nat, k ≤ xs.length ∧ m = xs.length - k ∧ e' 3 = .int .i64 k ∧ H' = [] ∧ Hid (∀ j (h1 : j < xs.length), j < k → inB xs[j] 1 999 = true)) xs.length ⟨0, by omega, by omega, rfl, rfl, fun j _ h => by omega⟩ ?_
  rintro m e' H' hA ⟨k, hk, rfl, h4, rfl, heq⟩ hJ
  have a0 := hA 0 rfl; try simp only [bse, wk, tys, storeH_ptr, Nat.reduceEqDiff, ↓reduceIte, reduceCtorEq, Nat.reduceAdd, Nat.reduceLeDiff, Int.reduceBEq, Int.reduceLT, Int.reduceLE, Int.reduceEq, ne_eq, not_false_eq_true, Nat.reduceMul] at a0; clear hA
  by_cases hlt : k < xs.length
  · have hlt' : (k : Int) < (xs.length : Int) := by omega
    have hw := wr_succ (k := k) (by omega)
    cases hx : inB xs[k] 1 999 with
    | true =>
      repeat' (first | (refine AWp.quiet (id := 9) (by kernel_rfl) (by kernel_rfl) ?_) | (refine ACalls.start ?_; first | (refine ACalls.ofJi (spec_l1Key _) rfl ?_)) | (refine qcall_start ?_; first | (refine qcallFi (spec_l1Key _) rfl ?_ ?_; (focus ((first | exact rfl | (simp [pureV, flatV, quorumE_val, quorumE_sz, voterE_val, voterE_sz, choiceE_val, choiceE_sz, refE_val, refE_sz, voteE_val, voteE_sz, nodeE_val, nodeE_sz, sliceE_val, sliceE_sz, clusterE_val, clusterE_sz, idxE_eq]; done)))))) | (refine KV.run _ ?_) | (refine KQ.run _ ?_) | (refine KT.run _ ?_) | (refine AWp.seqH fun KC => ?_) | (refine AWp.block ?_) | (refine AWp.region ?_) | (refine mops_step0 rfl rfl fun KC => ?_) | (refine mops_step1 rfl fun KC => ?_) | (refine mops_step2 rfl fun KC => ?_) | (refine AWp.ret ?_) | (refine AWp.skip ?_) | (refine AWp.exit ?_) | (refine aops_callH rfl fun kC => ?_) | (refine qops_callH rfl fun kC => ?_) | (refine AWp.condB ?_) | (simp only [bse, wk, tys, storeH_ptr, Nat.reduceEqDiff, ↓reduceIte, reduceCtorEq, Nat.reduceAdd, Nat.reduceLeDiff, Int.reduceBEq, Int.reduceLT, Int.reduceLE, Int.reduceEq, ne_eq, not_false_eq_true, Nat.reduceMul, quorumE_val, quorumE_sz, voterE_val, voterE_sz, choiceE_val, choiceE_sz, refE_val, refE_sz, voteE_val, voteE_sz, nodeE_val, nodeE_sz, sliceE_val, sliceE_sz, clusterE_val, clusterE_sz, idxE_eq, *]) | (refine condK_bool (fun hb => ?_) (fun hb => ?_) <;> ((try simp only [Bool.not_eq_true', Bool.not_eq_false'] at hb) <;> (try (have hbe := of_decide_eq_true hb)) <;> (try (have hbe := eq_of_beq hb)))) | (refine aops_partB ?_) | (refine qops_partB ?_))
      refine hJ.out _ _ ⟨xs.length - (k + 1), by omega, k + 1, by omega, rfl, rfl, rfl, fun j h1 hj => ?_⟩ (by repeat (first | exact Agree.refl _ _ | assumption | refine Agree.put ?_ rfl _))
      by_cases e : j = k
      · subst e; exact hx
      · exact heq.out j h1 (by omega)
    | false =>
      have hq : Hid (badFault xs = 3) := by unfold Hid; simp [badFault, keysB_false hlt hx]
      repeat' (first | (refine AWp.quiet (id := 9) (by kernel_rfl) (by kernel_rfl) ?_) | (refine ACalls.start ?_; first | (refine ACalls.ofJi (spec_l1Key _) rfl ?_)) | (refine qcall_start ?_; first | (refine qcallFi (spec_l1Key _) rfl ?_ ?_; (focus ((first | exact rfl | (simp [pureV, flatV, quorumE_val, quorumE_sz, voterE_val, voterE_sz, choiceE_val, choiceE_sz, refE_val, refE_sz, voteE_val, voteE_sz, nodeE_val, nodeE_sz, sliceE_val, sliceE_sz, clusterE_val, clusterE_sz, idxE_eq]; done)))))) | (refine KV.run _ ?_) | (refine KQ.run _ ?_) | (refine KT.run _ ?_) | (refine AWp.seqH fun KC => ?_) | (refine AWp.block ?_) | (refine AWp.region ?_) | (refine mops_step0 rfl rfl fun KC => ?_) | (refine mops_step1 rfl fun KC => ?_) | (refine mops_step2 rfl fun KC => ?_) | (refine AWp.ret ?_) | (refine AWp.skip ?_) | (refine AWp.exit ?_) | (refine aops_callH rfl fun kC => ?_) | (refine qops_callH rfl fun kC => ?_) | (refine AWp.condB ?_) | (simp only [bse, wk, tys, storeH_ptr, Nat.reduceEqDiff, ↓reduceIte, reduceCtorEq, Nat.reduceAdd, Nat.reduceLeDiff, Int.reduceBEq, Int.reduceLT, Int.reduceLE, Int.reduceEq, ne_eq, not_false_eq_true, Nat.reduceMul, quorumE_val, quorumE_sz, voterE_val, voterE_sz, choiceE_val, choiceE_sz, refE_val, refE_sz, voteE_val, voteE_sz, nodeE_val, nodeE_sz, sliceE_val, sliceE_sz, clusterE_val, clusterE_sz, idxE_eq, *]) | (refine condK_bool (fun hb => ?_) (fun hb => ?_) <;> ((try simp only [Bool.not_eq_true', Bool.not_eq_false'] at hb) <;> (try (have hbe := of_decide_eq_true hb)) <;> (try (have hbe := eq_of_beq hb)))) | (refine aops_partB ?_) | (refine qops_partB ?_))
      rw [hq.out]
  · have hlt' : ¬ (k : Int) < (xs.length : Int) := by omega
    have hks : keysB xs = true := keysB_true fun j hj => heq.out j hj (by omega)
    repeat' (first | (refine AWp.quiet (id := 9) (by kernel_rfl) (by kernel_rfl) ?_) | (refine KV.run _ ?_) | (refine KQ.run _ ?_) | (refine KT.run _ ?_) | (refine AWp.seqH fun KC => ?_) | (refine AWp.block ?_) | (refine AWp.region ?_) | (refine mops_step0 rfl rfl fun KC => ?_) | (refine mops_step1 rfl fun KC => ?_) | (refine mops_step2 rfl fun KC => ?_) | (refine AWp.ret ?_) | (refine AWp.skip ?_) | (refine AWp.exit ?_) | (refine aops_callH rfl fun kC => ?_) | (refine qops_callH rfl fun kC => ?_) | (refine AWp.condB ?_) | (simp only [bse, wk, tys, storeH_ptr, Nat.reduceEqDiff, ↓reduceIte, reduceCtorEq, Nat.reduceAdd, Nat.reduceLeDiff, Int.reduceBEq, Int.reduceLT, Int.reduceLE, Int.reduceEq, ne_eq, not_false_eq_true, Nat.reduceMul, quorumE_val, quorumE_sz, voterE_val, voterE_sz, choiceE_val, choiceE_sz, refE_val, refE_sz, voteE_val, voteE_sz, nodeE_val, nodeE_sz, sliceE_val, sliceE_sz, clusterE_val, clusterE_sz, idxE_eq, *]) | (refine condK_bool (fun hb => ?_) (fun hb => ?_) <;> ((try simp only [Bool.not_eq_true', Bool.not_eq_false'] at hb) <;> (try (have hbe := of_decide_eq_true hb)) <;> (try (have hbe := eq_of_beq hb)))) | (refine aops_partB ?_) | (refine qops_partB ?_))
    refine AWp.loopH [17, 18, 19, 20, 23, 24, 25, 26, 27, 28, 29, 30, 31, 32, 2, 21, 22, 4] (fun m e'' H' => ∃ k : Nat, 1 ≤ k ∧ m = xs.length - k ∧ e'' 4 = .int .i64 k ∧ H' = [] ∧ Hid (∀ j (h1 : j + 1 < xs.length), j + 1 < k → xs[j] < xs[j + 1])) (xs.length - 1) ⟨1, by omega, by omega, rfl, rfl, fun j _ h => by omega⟩ ?_
    rintro m e'' H'' hA ⟨k, hk, rfl, h5, rfl, heq2⟩ hJ2
    have a0 := hA 0 rfl; try simp only [bse, wk, tys, storeH_ptr, Nat.reduceEqDiff, ↓reduceIte, reduceCtorEq, Nat.reduceAdd, Nat.reduceLeDiff, Int.reduceBEq, Int.reduceLT, Int.reduceLE, Int.reduceEq, ne_eq, not_false_eq_true, Nat.reduceMul] at a0; clear hA
    by_cases hlt2 : k < xs.length
    · have hlt2' : (k : Int) < (xs.length : Int) := by omega
      obtain ⟨k', rfl⟩ : ∃ k', k = k' + 1 := ⟨k - 1, by omega⟩
      have hk2 : k' < xs.length := by omega
      have hw := wr_succ (k := k' + 1) (by omega)
      have hw2 : IntKind.i64.wrap (((k' + 1 : Nat) : Int) - 1) = (k' : Int) := by rw [wr] <;> omega
      by_cases hx : xs[k' + 1] ≤ xs[k']
      · have hq : Hid (badFault xs = 1) := by unfold Hid; simp [badFault, hks, risB_false hlt2 hx]
        repeat' (first | (refine AWp.quiet (id := 9) (by kernel_rfl) (by kernel_rfl) ?_) | (refine KV.run _ ?_) | (refine KQ.run _ ?_) | (refine KT.run _ ?_) | (refine AWp.seqH fun KC => ?_) | (refine AWp.block ?_) | (refine AWp.region ?_) | (refine mops_step0 rfl rfl fun KC => ?_) | (refine mops_step1 rfl fun KC => ?_) | (refine mops_step2 rfl fun KC => ?_) | (refine AWp.ret ?_) | (refine AWp.skip ?_) | (refine AWp.exit ?_) | (refine aops_callH rfl fun kC => ?_) | (refine qops_callH rfl fun kC => ?_) | (refine AWp.condB ?_) | (simp only [bse, wk, tys, storeH_ptr, Nat.reduceEqDiff, ↓reduceIte, reduceCtorEq, Nat.reduceAdd, Nat.reduceLeDiff, Int.reduceBEq, Int.reduceLT, Int.reduceLE, Int.reduceEq, ne_eq, not_false_eq_true, Nat.reduceMul, quorumE_val, quorumE_sz, voterE_val, voterE_sz, choiceE_val, choiceE_sz, refE_val, refE_sz, voteE_val, voteE_sz, nodeE_val, nodeE_sz, sliceE_val, sliceE_sz, clusterE_val, clusterE_sz, idxE_eq, *]) | (refine condK_bool (fun hb => ?_) (fun hb => ?_) <;> ((try simp only [Bool.not_eq_true', Bool.not_eq_false'] at hb) <;> (try (have hbe := of_decide_eq_true hb)) <;> (try (have hbe := eq_of_beq hb)))) | (refine aops_partB ?_) | (refine qops_partB ?_))
        rw [hq.out]
      · repeat' (first | (refine AWp.quiet (id := 9) (by kernel_rfl) (by kernel_rfl) ?_) | (refine KV.run _ ?_) | (refine KQ.run _ ?_) | (refine KT.run _ ?_) | (refine AWp.seqH fun KC => ?_) | (refine AWp.block ?_) | (refine AWp.region ?_) | (refine mops_step0 rfl rfl fun KC => ?_) | (refine mops_step1 rfl fun KC => ?_) | (refine mops_step2 rfl fun KC => ?_) | (refine AWp.ret ?_) | (refine AWp.skip ?_) | (refine AWp.exit ?_) | (refine aops_callH rfl fun kC => ?_) | (refine qops_callH rfl fun kC => ?_) | (refine AWp.condB ?_) | (simp only [bse, wk, tys, storeH_ptr, Nat.reduceEqDiff, ↓reduceIte, reduceCtorEq, Nat.reduceAdd, Nat.reduceLeDiff, Int.reduceBEq, Int.reduceLT, Int.reduceLE, Int.reduceEq, ne_eq, not_false_eq_true, Nat.reduceMul, quorumE_val, quorumE_sz, voterE_val, voterE_sz, choiceE_val, choiceE_sz, refE_val, refE_sz, voteE_val, voteE_sz, nodeE_val, nodeE_sz, sliceE_val, sliceE_sz, clusterE_val, clusterE_sz, idxE_eq, *]) | (refine condK_bool (fun hb => ?_) (fun hb => ?_) <;> ((try simp only [Bool.not_eq_true', Bool.not_eq_false'] at hb) <;> (try (have hbe := of_decide_eq_true hb)) <;> (try (have hbe := eq_of_beq hb)))) | (refine aops_partB ?_) | (refine qops_partB ?_))
        refine hJ2.out _ _ ⟨xs.length - (k' + 1 + 1), by omega, k' + 1 + 1, by omega, rfl, rfl, rfl, fun j h1 hj => ?_⟩ (by repeat (first | exact Agree.refl _ _ | assumption | refine Agree.put ?_ rfl _))
        by_cases e : j = k'
        · subst e; omega
        · exact heq2.out j h1 (by omega)
    · have hlt2' : ¬ (k : Int) < (xs.length : Int) := by omega
      have hr2 : risB xs = true := (risB_iff xs).2 fun j h1 => heq2.out j h1 (by omega)
      have hq : Hid (badFault xs = 0) := by unfold Hid; simp [badFault, hks, hr2]
      repeat' (first | (refine AWp.quiet (id := 9) (by kernel_rfl) (by kernel_rfl) ?_) | (refine KV.run _ ?_) | (refine KQ.run _ ?_) | (refine KT.run _ ?_) | (refine AWp.seqH fun KC => ?_) | (refine AWp.block ?_) | (refine AWp.region ?_) | (refine mops_step0 rfl rfl fun KC => ?_) | (refine mops_step1 rfl fun KC => ?_) | (refine mops_step2 rfl fun KC => ?_) | (refine AWp.ret ?_) | (refine AWp.skip ?_) | (refine AWp.exit ?_) | (refine aops_callH rfl fun kC => ?_) | (refine qops_callH rfl fun kC => ?_) | (refine AWp.condB ?_) | (simp only [bse, wk, tys, storeH_ptr, Nat.reduceEqDiff, ↓reduceIte, reduceCtorEq, Nat.reduceAdd, Nat.reduceLeDiff, Int.reduceBEq, Int.reduceLT, Int.reduceLE, Int.reduceEq, ne_eq, not_false_eq_true, Nat.reduceMul, quorumE_val, quorumE_sz, voterE_val, voterE_sz, choiceE_val, choiceE_sz, refE_val, refE_sz, voteE_val, voteE_sz, nodeE_val, nodeE_sz, sliceE_val, sliceE_sz, clusterE_val, clusterE_sz, idxE_eq, *]) | (refine condK_bool (fun hb => ?_) (fun hb => ?_) <;> ((try simp only [Bool.not_eq_true', Bool.not_eq_false'] at hb) <;> (try (have hbe := of_decide_eq_true hb)) <;> (try (have hbe := eq_of_beq hb)))) | (refine aops_partB ?_) | (refine qops_partB ?_))
      rw [hq.out]
theorem spec_l12Good (ks bs : List Int) (need : Int) (hn : ks.length ≤ 1048576) (hb : bs.length ≤ 1048576) : PCalls Try.prog 21 [ip [islE intE ks, .int .i64 need], islE intE bs] (islE intE (goodL ks bs)) := by
  refine PCalls.of ?_
  refine ACalls.enter (n := 38) (rs := [.tmp 4]) Try.func21 rfl rfl rfl (by kernel_rfl) (by kernel_rfl) (by kernel_rfl) (Nat.le_of_ble_eq_true rfl) ?_
  repeat' (first | (refine KV.run _ ?_) | (refine KQ.run _ ?_) | (refine KT.run _ ?_) | (refine AWp.seqH fun KC => ?_) | (refine AWp.block ?_) | (refine AWp.region ?_) | (refine mops_step0 rfl rfl fun KC => ?_) | (refine mops_step1 rfl fun KC => ?_) | (refine mops_step2 rfl fun KC => ?_) | (refine AWp.ret ?_) | (refine AWp.skip ?_) | (refine AWp.exit ?_) | (refine aops_callH rfl fun kC => ?_) | (refine qops_callH rfl fun kC => ?_) | (refine AWp.condB ?_) | (simp only [bse, wk, tys, storeH_ptr, Nat.reduceEqDiff, ↓reduceIte, reduceCtorEq, Nat.reduceAdd, Nat.reduceLeDiff, Int.reduceBEq, Int.reduceLT, Int.reduceLE, Int.reduceEq, ne_eq, not_false_eq_true, Nat.reduceMul, quorumE_val, quorumE_sz, voterE_val, voterE_sz, choiceE_val, choiceE_sz, refE_val, refE_sz, voteE_val, voteE_sz, nodeE_val, nodeE_sz, sliceE_val, sliceE_sz, clusterE_val, clusterE_sz, idxE_eq, *]) | (refine condK_bool (fun hb => ?_) (fun hb => ?_) <;> ((try simp only [Bool.not_eq_true', Bool.not_eq_false'] at hb) <;> (try (have hbe := of_decide_eq_true hb)) <;> (try (have hbe := eq_of_beq hb)))) | (refine aops_partB ?_) | (refine qops_partB ?_))
  refine AWp.loopH [8, 9, 10, 11, 12, 13, 14, 17, 18, 19, 20, 21, 22, 23, 24, 25, 26, 27, 28, 29, 30, 31, 32, 33, 34, 35, 36, 5, 15, 16, 6] (fun m e' H' => ∃ (k ver : Nat) (ys : List Int) (G : AH), k ≤ ks.length ∧ m = ks.length - k ∧ e' 6 = .int .i64 k ∧ e' 5 = .slice (some ⟨0, 0, none⟩) ys.length ver ∧ ys.length ≤ k ∧ H' = ⟨2, 1, intE.flat ys, ver, true⟩ :: G ∧ Hid (ys = goodL (ks.take k) bs)) ks.length ⟨0, 0, [], [], by omega, by omega, rfl, rfl, by simp, rfl, rfl⟩ ?_
  rintro m e' H' hA ⟨k, ver, ys, G, hk, rfl, e6, e5, hy, rfl, hF⟩ hJ
  have a0 := hA 0 rfl; have a1 := hA 1 rfl; have a4 := hA 4 rfl; try simp only [bse, wk, tys, storeH_ptr, Nat.reduceEqDiff, ↓reduceIte, reduceCtorEq, Nat.reduceAdd, Nat.reduceLeDiff, Int.reduceBEq, Int.reduceLT, Int.reduceLE, Int.reduceEq, ne_eq, not_false_eq_true, Nat.reduceMul] at a0 a1 a4; clear hA
  by_cases hlt : k < ks.length
  · have hlt' : (k : Int) < (ks.length : Int) := by omega
    have hw := wr_succ (k := k) (by omega)
    have hst := goodL_step ks bs k hlt
    rw [← hF.out] at hst
    cases hc : (bs.any fun y => ks[k] == y) with
    | true =>
      have hs : Hid (ys = goodL (ks.take (k + 1)) bs) := by rw [hc] at hst; exact hst.symm
      clear hst hF
      repeat' (first | (refine ACalls.start ?_; first | (refine ACalls.ofJi (spec_l4Among bs _ (by omega)) rfl ?_)) | (refine qcall_start ?_; first | (refine qcallFi (spec_l4Among bs _ (by omega)) rfl ?_ ?_; (focus ((first | exact rfl | (simp [pureV, flatV, quorumE_val, quorumE_sz, voterE_val, voterE_sz, choiceE_val, choiceE_sz, refE_val, refE_sz, voteE_val, voteE_sz, nodeE_val, nodeE_sz, sliceE_val, sliceE_sz, clusterE_val, clusterE_sz, idxE_eq]; done)))))) | (refine KV.run _ ?_) | (refine KQ.run _ ?_) | (refine KT.run _ ?_) | (refine AWp.seqH fun KC => ?_) | (refine AWp.block ?_) | (refine AWp.region ?_) | (refine mops_step0 rfl rfl fun KC => ?_) | (refine mops_step1 rfl fun KC => ?_) | (refine mops_step2 rfl fun KC => ?_) | (refine AWp.ret ?_) | (refine AWp.skip ?_) | (refine AWp.exit ?_) | (refine aops_callH rfl fun kC => ?_) | (refine qops_callH rfl fun kC => ?_) | (refine AWp.condB ?_) | (simp only [bse, wk, tys, storeH_ptr, Nat.reduceEqDiff, ↓reduceIte, reduceCtorEq, Nat.reduceAdd, Nat.reduceLeDiff, Int.reduceBEq, Int.reduceLT, Int.reduceLE, Int.reduceEq, ne_eq, not_false_eq_true, Nat.reduceMul, quorumE_val, quorumE_sz, voterE_val, voterE_sz, choiceE_val, choiceE_sz, refE_val, refE_sz, voteE_val, voteE_sz, nodeE_val, nodeE_sz, sliceE_val, sliceE_sz, clusterE_val, clusterE_sz, idxE_eq, *]) | (refine condK_bool (fun hb => ?_) (fun hb => ?_) <;> ((try simp only [Bool.not_eq_true', Bool.not_eq_false'] at hb) <;> (try (have hbe := of_decide_eq_true hb)) <;> (try (have hbe := eq_of_beq hb)))) | (refine aops_partB ?_) | (refine qops_partB ?_))
      exact hJ.out _ _ ⟨ks.length - (k + 1), by omega, k + 1, ver, ys, G, by omega, rfl, rfl, by simp [put, e5], by omega, rfl, hs⟩ (by repeat (first | exact Agree.refl _ _ | assumption | refine Agree.put ?_ rfl _))
    | false =>
      have hs : Hid (ys ++ [ks[k]] = goodL (ks.take (k + 1)) bs) := by rw [hc] at hst; exact hst.symm
      clear hst hF
      have hap := appendH_one (P := Try.prog) (B := 0) (E := intE) (H0 := ⟨2, 1, intE.flat ys, ver, true⟩ :: G) (ys := ys) ks[k] elZ22 elZ22 zOk22 (r := 0) rfl (Nat.zero_le _) (by omega) (by omega)
      simp only [List.cons_append, List.length_cons, List.set_cons_succ, List.set_cons_zero, intE_sz, intE_val, cells_int] at hap
      repeat' (first | (refine ACalls.start ?_; first | (refine ACalls.ofJi (spec_l4Among bs _ (by omega)) rfl ?_)) | (refine qcall_start ?_; first | (refine qcallFi (spec_l4Among bs _ (by omega)) rfl ?_ ?_; (focus ((first | exact rfl | (simp [pureV, flatV, quorumE_val, quorumE_sz, voterE_val, voterE_sz, choiceE_val, choiceE_sz, refE_val, refE_sz, voteE_val, voteE_sz, nodeE_val, nodeE_sz, sliceE_val, sliceE_sz, clusterE_val, clusterE_sz, idxE_eq]; done)))))) | (refine KV.run _ ?_) | (refine KQ.run _ ?_) | (refine KT.run _ ?_) | (refine AWp.seqH fun KC => ?_) | (refine AWp.block ?_) | (refine AWp.region ?_) | (refine mops_step0 rfl rfl fun KC => ?_) | (refine mops_step1 rfl fun KC => ?_) | (refine mops_step2 rfl fun KC => ?_) | (refine AWp.ret ?_) | (refine AWp.skip ?_) | (refine AWp.exit ?_) | (refine aops_callH rfl fun kC => ?_) | (refine qops_callH rfl fun kC => ?_) | (refine AWp.condB ?_) | (simp only [bse, wk, tys, storeH_ptr, Nat.reduceEqDiff, ↓reduceIte, reduceCtorEq, Nat.reduceAdd, Nat.reduceLeDiff, Int.reduceBEq, Int.reduceLT, Int.reduceLE, Int.reduceEq, ne_eq, not_false_eq_true, Nat.reduceMul, quorumE_val, quorumE_sz, voterE_val, voterE_sz, choiceE_val, choiceE_sz, refE_val, refE_sz, voteE_val, voteE_sz, nodeE_val, nodeE_sz, sliceE_val, sliceE_sz, clusterE_val, clusterE_sz, idxE_eq, *]) | (refine condK_bool (fun hb => ?_) (fun hb => ?_) <;> ((try simp only [Bool.not_eq_true', Bool.not_eq_false'] at hb) <;> (try (have hbe := of_decide_eq_true hb)) <;> (try (have hbe := eq_of_beq hb)))) | (refine aops_partB ?_) | (refine qops_partB ?_))
      exact hJ.out _ _ ⟨ks.length - (k + 1), by omega, k + 1, ver + 1, ys ++ [ks[k]], _, by omega, rfl, rfl, by simp [put], by simp; omega, rfl, hs⟩ (by repeat (first | exact Agree.refl _ _ | assumption | refine Agree.put ?_ rfl _))
  · have hlt' : ¬ (k : Int) < (ks.length : Int) := by omega
    have hke : k = ks.length := by omega
    subst hke
    have hs : Hid (ys = goodL ks bs) := by have := hF.out; rw [List.take_length] at this; exact this
    clear hF
    repeat' (first | (refine KV.run _ ?_) | (refine KQ.run _ ?_) | (refine KT.run _ ?_) | (refine AWp.seqH fun KC => ?_) | (refine AWp.block ?_) | (refine AWp.region ?_) | (refine mops_step0 rfl rfl fun KC => ?_) | (refine mops_step1 rfl fun KC => ?_) | (refine mops_step2 rfl fun KC => ?_) | (refine AWp.ret ?_) | (refine AWp.skip ?_) | (refine AWp.exit ?_) | (refine aops_callH rfl fun kC => ?_) | (refine qops_callH rfl fun kC => ?_) | (refine AWp.condB ?_) | (simp only [bse, wk, tys, storeH_ptr, Nat.reduceEqDiff, ↓reduceIte, reduceCtorEq, Nat.reduceAdd, Nat.reduceLeDiff, Int.reduceBEq, Int.reduceLT, Int.reduceLE, Int.reduceEq, ne_eq, not_false_eq_true, Nat.reduceMul, quorumE_val, quorumE_sz, voterE_val, voterE_sz, choiceE_val, choiceE_sz, refE_val, refE_sz, voteE_val, voteE_sz, nodeE_val, nodeE_sz, sliceE_val, sliceE_sz, clusterE_val, clusterE_sz, idxE_eq, *]) | (refine condK_bool (fun hb => ?_) (fun hb => ?_) <;> ((try simp only [Bool.not_eq_true', Bool.not_eq_false'] at hb) <;> (try (have hbe := of_decide_eq_true hb)) <;> (try (have hbe := eq_of_beq hb)))) | (refine aops_partB ?_) | (refine qops_partB ?_))
    rw [← hs.out]
    exact Bor.sbE (E := intE) rfl (fun _ => rfl) rfl
theorem sameKeys_at {vs : List TVoter} {ks : List Int} (h : sameKeys vs ks = true) : vs.length = ks.length ∧ ∀ j (h1 : j < vs.length) (h2 : j < ks.length), vs[j].key = ks[j] := by
  unfold sameKeys at h
  have h := eq_of_beq h
  subst h
  exact ⟨by simp, fun j h1 h2 => by simp⟩
theorem sameKeys_of {vs : List TVoter} {ks : List Int} (hl : vs.length = ks.length) (h : ∀ j (h1 : j < vs.length) (h2 : j < ks.length), vs[j].key = ks[j]) : sameKeys vs ks = true := by
  unfold sameKeys
  rw [beq_iff_eq]
  exact List.ext_getElem (by simpa using hl) fun j h1 h2 => by simpa using h j (by simpa using h1) h2
end Go.BM
