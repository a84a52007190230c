/- PathTo, AddNode: both sides. -/
import Derived.Test.YtdhincmlefpfkaaT6
import Derived.Test.YtdhincmlefpfkaaG4
import Derived.Test.YtdhincmlefpfkaaU2
set_option linter.unusedVariables false
set_option linter.unusedSimpArgs false
set_option maxRecDepth 100000
set_option maxHeartbeats 4000000
namespace Go.BM
open Go.Proofs Go.RowKit
attribute [local irreducible] ACalls AWp aops qops optK optP cK gateA condK mops qcallK PCalls loadV fldV idxV lenV slV storeH binS
def pathToF (xs : List TNode) (id : Int) : TIntsResult := if treeFault xs == 0 then (if !(id == 0) && decide (ndAt xs id < 0) then ⟨4, []⟩ else ⟨0, (path xs id).reverse⟩) else ⟨treeFault xs, []⟩
theorem nR_PathTo (xs : List TNode) (id : Int) (hn : xs.length ≤ 1048576) : nIntsResult (pathToF xs id) ≤ 1048576 := by
  unfold nIntsResult pathToF
  cases hc : (treeFault xs == 0) with
  | false => simp
  | true =>
    have R := Right.of (eq_of_beq hc)
    have h1 := R.path_len id
    have h2 := R.hgt_le id
    simp only [if_true]
    split
    · simp
    · simp; omega
theorem impl_PathTo (xs : List TNode) (id : Int) (hn : xs.length ≤ 1048576) : NCalls Try.prog 48 [islE nodeE xs, .int .i64 id] (intsResultE.val (pathToF xs id)) := by
  unfold pathToF
  cases hc : (treeFault xs == 0) with
  | false =>
    simp only [Bool.false_eq_true, if_false]
    refine NCalls.of ?_; refine ACalls.enter (n := 25) (rs := [.cell 4 33]) Try.func48 rfl rfl rfl (by kernel_rfl) (by kernel_rfl) (by kernel_rfl) (Nat.le_of_ble_eq_true rfl) ?_
    repeat' (first | (refine ACalls.start ?_; first | (refine ACalls.ofJi (impl_TreeFault xs (by omega)) rfl ?_)) | (refine qcall_start ?_; first | (refine qcallFi (impl_TreeFault xs (by omega)) rfl ?_ ?_; (focus ((first | exact rfl | (simp [pureV, flatV, nodeE_val, nodeE_sz, intsResultE_val, treeResultE_val]; done)))))) | (refine KV.run _ ?_) | (refine KQ.run _ ?_) | (refine KT.run _ ?_) | (refine AWp.seqH fun KC => ?_) | (refine AWp.block ?_) | (refine AWp.region ?_) | (refine mops_step0 rfl rfl fun KC => ?_) | (refine mops_step1 rfl fun KC => ?_) | (refine mops_step2 rfl fun KC => ?_) | (refine AWp.ret ?_) | (refine AWp.skip ?_) | (refine AWp.exit ?_) | (refine aops_callH rfl fun kC => ?_) | (refine qops_callH rfl fun kC => ?_) | (refine AWp.condB ?_) | (simp only [bse, wk, tys, storeH_ptr, Nat.reduceEqDiff, ↓reduceIte, reduceCtorEq, Nat.reduceAdd, Nat.reduceLeDiff, Int.reduceBEq, Int.reduceLT, Int.reduceLE, Int.reduceEq, ne_eq, not_false_eq_true, Nat.reduceMul, nodeE_val, nodeE_sz, intsResultE_val, treeResultE_val, *]) | (refine condK_bool (fun hb => ?_) (fun hb => ?_) <;> ((try simp only [Bool.not_eq_true', Bool.not_eq_false'] at hb) <;> (try (have hbe := of_decide_eq_true hb)) <;> (try (have hbe := eq_of_beq hb)))) | (refine aops_partB ?_) | (refine qops_partB ?_))
    exact ⟨[], by simp, OwnL.aggL (.flat rfl (.nils .nil))⟩
  | true =>
    have R := Right.of (eq_of_beq hc)
    simp only [if_true]
    by_cases h0 : (!(id == 0) && decide (ndAt xs id < 0)) = true
    · rw [h0]
      simp only [if_true]
      rw [Bool.and_eq_true] at h0
      obtain ⟨h1, h2⟩ := h0
      have h2' : ndAt xs id < 0 := of_decide_eq_true h2
      have h3 : ¬ 0 ≤ ndAt xs id := by omega
      rw [Bool.not_eq_true'] at h1
      clear h2 h2'
      refine NCalls.of ?_; refine ACalls.enter (n := 25) (rs := [.cell 4 33]) Try.func48 rfl rfl rfl (by kernel_rfl) (by kernel_rfl) (by kernel_rfl) (Nat.le_of_ble_eq_true rfl) ?_
      repeat' (first | (refine ACalls.start ?_; first | (refine ACalls.ofJi (impl_TreeFault xs (by omega)) rfl ?_) | (refine ACalls.ofJi (impl_isIn xs id (by omega)) rfl ?_)) | (refine qcall_start ?_; first | (refine qcallFi (impl_TreeFault xs (by omega)) rfl ?_ ?_; (focus ((first | exact rfl | (simp [pureV, flatV, nodeE_val, nodeE_sz, intsResultE_val, treeResultE_val]; done))))) | (refine qcallFi (impl_isIn xs id (by omega)) rfl ?_ ?_; (focus ((first | exact rfl | (simp [pureV, flatV, nodeE_val, nodeE_sz, intsResultE_val, treeResultE_val]; done)))))) | (refine KV.run _ ?_) | (refine KQ.run _ ?_) | (refine KT.run _ ?_) | (refine AWp.seqH fun KC => ?_) | (refine AWp.block ?_) | (refine AWp.region ?_) | (refine mops_step0 rfl rfl fun KC => ?_) | (refine mops_step1 rfl fun KC => ?_) | (refine mops_step2 rfl fun KC => ?_) | (refine AWp.ret ?_) | (refine AWp.skip ?_) | (refine AWp.exit ?_) | (refine aops_callH rfl fun kC => ?_) | (refine qops_callH rfl fun kC => ?_) | (refine AWp.condB ?_) | (simp only [bse, wk, tys, storeH_ptr, Nat.reduceEqDiff, ↓reduceIte, reduceCtorEq, Nat.reduceAdd, Nat.reduceLeDiff, Int.reduceBEq, Int.reduceLT, Int.reduceLE, Int.reduceEq, ne_eq, not_false_eq_true, Nat.reduceMul, nodeE_val, nodeE_sz, intsResultE_val, treeResultE_val, *]) | (refine condK_bool (fun hb => ?_) (fun hb => ?_) <;> ((try simp only [Bool.not_eq_true', Bool.not_eq_false'] at hb) <;> (try (have hbe := of_decide_eq_true hb)) <;> (try (have hbe := eq_of_beq hb)))) | (refine aops_partB ?_) | (refine qops_partB ?_))
      exact ⟨[], by simp, OwnL.aggL (.flat rfl (.nils .nil))⟩
    · have h0' : (!(id == 0) && decide (ndAt xs id < 0)) = false := by simpa using h0
      rw [h0']
      clear h0
      simp only [Bool.false_eq_true, if_false]
      have hcx := CxP.nil 1
      cases h1 : (id == 0) with
      | true =>
        clear h0'
        refine NCalls.of ?_; refine ACalls.enter (n := 25) (rs := [.cell 4 33]) Try.func48 rfl rfl rfl (by kernel_rfl) (by kernel_rfl) (by kernel_rfl) (Nat.le_of_ble_eq_true rfl) ?_
        repeat' (first | (refine ACalls.start ?_; first | (refine ACalls.ofJi (impl_TreeFault xs (by omega)) rfl ?_) | (refine ACalls.ofJi (impl_isIn xs id (by omega)) rfl ?_)) | (refine qcall_start ?_; first | (refine qcallFi (impl_TreeFault xs (by omega)) rfl ?_ ?_; (focus ((first | exact rfl | (simp [pureV, flatV, nodeE_val, nodeE_sz, intsResultE_val, treeResultE_val]; done))))) | (refine qcallFi (impl_isIn xs id (by omega)) rfl ?_ ?_; (focus ((first | exact rfl | (simp [pureV, flatV, nodeE_val, nodeE_sz, intsResultE_val, treeResultE_val]; done)))))) | (refine KV.run _ ?_) | (refine KQ.run _ ?_) | (refine KT.run _ ?_) | (refine AWp.seqH fun KC => ?_) | (refine AWp.block ?_) | (refine AWp.region ?_) | (refine mops_step0 rfl rfl fun KC => ?_) | (refine mops_step1 rfl fun KC => ?_) | (refine mops_step2 rfl fun KC => ?_) | (refine AWp.ret ?_) | (refine AWp.skip ?_) | (refine AWp.exit ?_) | (refine aops_callH rfl fun kC => ?_) | (refine qops_callH rfl fun kC => ?_) | (refine AWp.condB ?_) | (simp only [bse, wk, tys, storeH_ptr, Nat.reduceEqDiff, ↓reduceIte, reduceCtorEq, Nat.reduceAdd, Nat.reduceLeDiff, Int.reduceBEq, Int.reduceLT, Int.reduceLE, Int.reduceEq, ne_eq, not_false_eq_true, Nat.reduceMul, nodeE_val, nodeE_sz, intsResultE_val, treeResultE_val, *]) | (refine condK_bool (fun hb => ?_) (fun hb => ?_) <;> ((try simp only [Bool.not_eq_true', Bool.not_eq_false'] at hb) <;> (try (have hbe := of_decide_eq_true hb)) <;> (try (have hbe := eq_of_beq hb)))) | (refine aops_partB ?_) | (refine qops_partB ?_))
        refine ACalls.get (NCalls.use (impl_pathTo_own xs R id) (BorL.same (by repeat' (first | exact Im.nilL | refine Im.consL ?_ ?_ | refine Im.appL ?_ ?_ | exact Im.flat _ rfl | exact islE_im _ _ | exact Enc.val_im _ _ | assumption | refine Im.aggL ?_ | refine Im.funcL ?_ | refine Im.funcA ?_ | refine Im.isl ?_ | refine Im.ip ?_)))) (by first | exact Nat.le_refl _ | exact Nat.zero_le _ | (simp only [List.length_append, List.length_cons, List.length_nil]; omega) | (simp only [List.length_set]; omega) | omega) (by first | exact Nat.le_refl _ | exact Nat.zero_le _ | (simp only [List.length_append, List.length_cons, List.length_nil]; omega) | (simp only [List.length_set]; omega) | omega) ?_
        rintro d _ ⟨S, hN⟩
        obtain ⟨a0, n0, v0, rfl⟩ := hN.own.slD
        obtain ⟨N0, rfl, hcx⟩ := CxP.new hcx [_] rfl hN
        simp only [List.nil_append, List.cons_append] at hcx
        clear hN
        repeat' (first | (refine KV.run _ ?_) | (refine KQ.run _ ?_) | (refine KT.run _ ?_) | (refine AWp.seqH fun KC => ?_) | (refine AWp.block ?_) | (refine AWp.region ?_) | (refine mops_step0 rfl rfl fun KC => ?_) | (refine mops_step1 rfl fun KC => ?_) | (refine mops_step2 rfl fun KC => ?_) | (refine AWp.ret ?_) | (refine AWp.skip ?_) | (refine AWp.exit ?_) | (refine aops_callH rfl fun kC => ?_) | (refine qops_callH rfl fun kC => ?_) | (refine AWp.condB ?_) | (simp only [bse, wk, tys, storeH_ptr, Nat.reduceEqDiff, ↓reduceIte, reduceCtorEq, Nat.reduceAdd, Nat.reduceLeDiff, Int.reduceBEq, Int.reduceLT, Int.reduceLE, Int.reduceEq, ne_eq, not_false_eq_true, Nat.reduceMul, nodeE_val, nodeE_sz, intsResultE_val, treeResultE_val, *]) | (refine condK_bool (fun hb => ?_) (fun hb => ?_) <;> ((try simp only [Bool.not_eq_true', Bool.not_eq_false'] at hb) <;> (try (have hbe := of_decide_eq_true hb)) <;> (try (have hbe := eq_of_beq hb)))) | (refine aops_partB ?_) | (refine qops_partB ?_))
        exact CxP.out hcx [_] rfl fun _ hf => ⟨_, by simpa using hf.nd, OwnL.aggL (.flat rfl (OwnL.append (hf.get 0 rfl).loose .nil))⟩
      | false =>
        rw [h1] at h0'
        have h3 : 0 ≤ ndAt xs id := by simpa using h0'
        clear h0'
        refine NCalls.of ?_; refine ACalls.enter (n := 25) (rs := [.cell 4 33]) Try.func48 rfl rfl rfl (by kernel_rfl) (by kernel_rfl) (by kernel_rfl) (Nat.le_of_ble_eq_true rfl) ?_
        repeat' (first | (refine ACalls.start ?_; first | (refine ACalls.ofJi (impl_TreeFault xs (by omega)) rfl ?_) | (refine ACalls.ofJi (impl_isIn xs id (by omega)) rfl ?_)) | (refine qcall_start ?_; first | (refine qcallFi (impl_TreeFault xs (by omega)) rfl ?_ ?_; (focus ((first | exact rfl | (simp [pureV, flatV, nodeE_val, nodeE_sz, intsResultE_val, treeResultE_val]; done))))) | (refine qcallFi (impl_isIn xs id (by omega)) rfl ?_ ?_; (focus ((first | exact rfl | (simp [pureV, flatV, nodeE_val, nodeE_sz, intsResultE_val, treeResultE_val]; done)))))) | (refine KV.run _ ?_) | (refine KQ.run _ ?_) | (refine KT.run _ ?_) | (refine AWp.seqH fun KC => ?_) | (refine AWp.block ?_) | (refine AWp.region ?_) | (refine mops_step0 rfl rfl fun KC => ?_) | (refine mops_step1 rfl fun KC => ?_) | (refine mops_step2 rfl fun KC => ?_) | (refine AWp.ret ?_) | (refine AWp.skip ?_) | (refine AWp.exit ?_) | (refine aops_callH rfl fun kC => ?_) | (refine qops_callH rfl fun kC => ?_) | (refine AWp.condB ?_) | (simp only [bse, wk, tys, storeH_ptr, Nat.reduceEqDiff, ↓reduceIte, reduceCtorEq, Nat.reduceAdd, Nat.reduceLeDiff, Int.reduceBEq, Int.reduceLT, Int.reduceLE, Int.reduceEq, ne_eq, not_false_eq_true, Nat.reduceMul, nodeE_val, nodeE_sz, intsResultE_val, treeResultE_val, *]) | (refine condK_bool (fun hb => ?_) (fun hb => ?_) <;> ((try simp only [Bool.not_eq_true', Bool.not_eq_false'] at hb) <;> (try (have hbe := of_decide_eq_true hb)) <;> (try (have hbe := eq_of_beq hb)))) | (refine aops_partB ?_) | (refine qops_partB ?_))
        refine ACalls.get (NCalls.use (impl_pathTo_own xs R id) (BorL.same (by repeat' (first | exact Im.nilL | refine Im.consL ?_ ?_ | refine Im.appL ?_ ?_ | exact Im.flat _ rfl | exact islE_im _ _ | exact Enc.val_im _ _ | assumption | refine Im.aggL ?_ | refine Im.funcL ?_ | refine Im.funcA ?_ | refine Im.isl ?_ | refine Im.ip ?_)))) (by first | exact Nat.le_refl _ | exact Nat.zero_le _ | (simp only [List.length_append, List.length_cons, List.length_nil]; omega) | (simp only [List.length_set]; omega) | omega) (by first | exact Nat.le_refl _ | exact Nat.zero_le _ | (simp only [List.length_append, List.length_cons, List.length_nil]; omega) | (simp only [List.length_set]; omega) | omega) ?_
        rintro d _ ⟨S, hN⟩
        obtain ⟨a0, n0, v0, rfl⟩ := hN.own.slD
        obtain ⟨N0, rfl, hcx⟩ := CxP.new hcx [_] rfl hN
        simp only [List.nil_append, List.cons_append] at hcx
        clear hN
        repeat' (first | (refine KV.run _ ?_) | (refine KQ.run _ ?_) | (refine KT.run _ ?_) | (refine AWp.seqH fun KC => ?_) | (refine AWp.block ?_) | (refine AWp.region ?_) | (refine mops_step0 rfl rfl fun KC => ?_) | (refine mops_step1 rfl fun KC => ?_) | (refine mops_step2 rfl fun KC => ?_) | (refine AWp.ret ?_) | (refine AWp.skip ?_) | (refine AWp.exit ?_) | (refine aops_callH rfl fun kC => ?_) | (refine qops_callH rfl fun kC => ?_) | (refine AWp.condB ?_) | (simp only [bse, wk, tys, storeH_ptr, Nat.reduceEqDiff, ↓reduceIte, reduceCtorEq, Nat.reduceAdd, Nat.reduceLeDiff, Int.reduceBEq, Int.reduceLT, Int.reduceLE, Int.reduceEq, ne_eq, not_false_eq_true, Nat.reduceMul, nodeE_val, nodeE_sz, intsResultE_val, treeResultE_val, *]) | (refine condK_bool (fun hb => ?_) (fun hb => ?_) <;> ((try simp only [Bool.not_eq_true', Bool.not_eq_false'] at hb) <;> (try (have hbe := of_decide_eq_true hb)) <;> (try (have hbe := eq_of_beq hb)))) | (refine aops_partB ?_) | (refine qops_partB ?_))
        exact CxP.out hcx [_] rfl fun _ hf => ⟨_, by simpa using hf.nd, OwnL.aggL (.flat rfl (OwnL.append (hf.get 0 rfl).loose .nil))⟩
theorem spec_l9Path (xs : List TNode) (R : Right xs) (id : Int) (hid : id = 0 ∨ 0 ≤ ndAt xs id) : PCalls Try.prog 126 [islE nodeE xs, .int .i64 id] (islE intE (path xs id).reverse) := by
  have hn := R.len
  refine PCalls.of ?_; refine ACalls.enter (n := 21) (rs := [.tmp 4]) Try.func126 rfl rfl rfl (by kernel_rfl) (by kernel_rfl) (by kernel_rfl) (Nat.le_of_ble_eq_true rfl) ?_
  repeat' (first | (refine KV.run _ ?_) | (refine KQ.run _ ?_) | (refine KT.run _ ?_) | (refine AWp.seqH fun KC => ?_) | (refine AWp.block ?_) | (refine AWp.region ?_) | (refine mops_step0 rfl rfl fun KC => ?_) | (refine mops_step1 rfl fun KC => ?_) | (refine mops_step2 rfl fun KC => ?_) | (refine AWp.ret ?_) | (refine AWp.skip ?_) | (refine AWp.exit ?_) | (refine aops_callH rfl fun kC => ?_) | (refine qops_callH rfl fun kC => ?_) | (refine AWp.condB ?_) | (simp only [bse, wk, tys, storeH_ptr, Nat.reduceEqDiff, ↓reduceIte, reduceCtorEq, Nat.reduceAdd, Nat.reduceLeDiff, Int.reduceBEq, Int.reduceLT, Int.reduceLE, Int.reduceEq, ne_eq, not_false_eq_true, Nat.reduceMul, nodeE_val, nodeE_sz, intsResultE_val, treeResultE_val, *]) | (refine condK_bool (fun hb => ?_) (fun hb => ?_) <;> ((try simp only [Bool.not_eq_true', Bool.not_eq_false'] at hb) <;> (try (have hbe := of_decide_eq_true hb)) <;> (try (have hbe := eq_of_beq hb)))) | (refine aops_partB ?_) | (refine qops_partB ?_))
  refine AWp.loopH [7, 8, 9, 10, 11, 12, 5, 13, 14, 15, 16, 17, 18, 19, 1] (fun m e' H' => ∃ (cur : Int) (a : Option Addr) (n v : Nat) (ys : List Int) (M : AH), m = hgt xs cur ∧ e' 1 = .int .i64 cur ∧ e' 5 = .slice a n v ∧ H' = M ∧ (cur = 0 ∨ 0 ≤ ndAt xs cur) ∧ Hid (SlM 0 2 intE M a n v ys) ∧ Hid ((path xs id).reverse = (path xs cur).reverse ++ ys)) (hgt xs id)
    ⟨id, some ⟨0, 0, none⟩, 0, 0, [], _, rfl, rfl, rfl, rfl, hid, SlM.blk (r := 0) rfl rfl rfl, by simp [Hid]⟩ ?_
  rintro m e' H' hA ⟨cur, a, n, v, ys, M, rfl, h1, h5, rfl, hcur, hM, hF⟩ hJ
  have a0 := hA 0 rfl; have a4 := hA 4 rfl; try simp only [bse, wk, tys, storeH_ptr, Nat.reduceEqDiff, ↓reduceIte, reduceCtorEq, Nat.reduceAdd, Nat.reduceLeDiff, Int.reduceBEq, Int.reduceLT, Int.reduceLE, Int.reduceEq, ne_eq, not_false_eq_true, Nat.reduceMul] at a0 a4; clear hA
  by_cases h0 : cur = 0
  · have hs : Hid ((path xs id).reverse = ys) := by unfold Hid; rw [hF.out, h0, path_none R.zero]; rfl
    subst h0
    clear hF
    repeat' (first | (refine KV.run _ ?_) | (refine KQ.run _ ?_) | (refine KT.run _ ?_) | (refine AWp.seqH fun KC => ?_) | (refine AWp.block ?_) | (refine AWp.region ?_) | (refine mops_step0 rfl rfl fun KC => ?_) | (refine mops_step1 rfl fun KC => ?_) | (refine mops_step2 rfl fun KC => ?_) | (refine AWp.ret ?_) | (refine AWp.skip ?_) | (refine AWp.exit ?_) | (refine aops_callH rfl fun kC => ?_) | (refine qops_callH rfl fun kC => ?_) | (refine AWp.condB ?_) | (simp only [bse, wk, tys, storeH_ptr, Nat.reduceEqDiff, ↓reduceIte, reduceCtorEq, Nat.reduceAdd, Nat.reduceLeDiff, Int.reduceBEq, Int.reduceLT, Int.reduceLE, Int.reduceEq, ne_eq, not_false_eq_true, Nat.reduceMul, nodeE_val, nodeE_sz, intsResultE_val, treeResultE_val, *]) | (refine condK_bool (fun hb => ?_) (fun hb => ?_) <;> ((try simp only [Bool.not_eq_true', Bool.not_eq_false'] at hb) <;> (try (have hbe := of_decide_eq_true hb)) <;> (try (have hbe := eq_of_beq hb)))) | (refine aops_partB ?_) | (refine qops_partB ?_))
    rw [hs.out]
    exact hM.out.bor [] rfl
  · have h0' : (cur == 0) = false := by simpa using h0
    have hp : 0 ≤ ndAt xs cur := by omega
    obtain ⟨k, hk, e, e1, _⟩ := ndAt_lt hp
    have hu : Hid (upId xs cur = xs[k].prev) := by unfold Hid upId; rw [e, pOf_at hk]
    have hg := R.hgt_up hp
    have hyl : ys.length ≤ 40 := by have := congrArg List.length hF.out; have h4 := R.path_len id; have h5 := R.hgt_le id; simp at this; omega
    have hs : Hid ((path xs id).reverse = (path xs (upId xs cur)).reverse ++ (cur :: ys)) := by unfold Hid; rw [hF.out, R.path_some hp]; simp
    have hlt' : (k : Int) < (xs.length : Int) := by omega
    have hnx : Hid (upId xs cur = 0 ∨ 0 ≤ ndAt xs (upId xs cur)) := by unfold Hid; have := hg.2.2; omega
    have hg1 : hgt xs (upId xs cur) < hgt xs cur := by have := hg.1; omega
    have hap := appendH_sb (P := Try.prog) (B := 0) (H := H' ++ [sb 2 intE [cur] 0 true]) (E := intE) (xs := [cur]) (ys := ys) (r := H'.length) (x := .slice a n v) (t := 24) (tx := 24) (o := true) (ver := 0) elZ24 zOk24 (by rw [get_app0]; rfl) (Nat.zero_le _) (hM.out.src elZ24 [] rfl [_] _) (by simp; omega) (by simp; omega)
    simp only [sb_eq, intE_sz, intE.flat_one, intE_val, cells_int, List.length_cons, List.length_nil, Nat.zero_add, set_app0, List.set_cons_zero, Bool.true_or] at hap
    clear hp e1 hg hF
    repeat' (first | (refine ACalls.start ?_; first | (refine ACalls.ofJi (spec_l9At xs _ (by omega)) rfl ?_)) | (refine qcall_start ?_; first | (refine qcallFi (spec_l9At xs _ (by omega)) rfl ?_ ?_; (focus ((first | exact rfl | (simp [pureV, flatV, nodeE_val, nodeE_sz, intsResultE_val, treeResultE_val]; done)))))) | (refine KV.run _ ?_) | (refine KQ.run _ ?_) | (refine KT.run _ ?_) | (refine AWp.seqH fun KC => ?_) | (refine AWp.block ?_) | (refine AWp.region ?_) | (refine mops_step0 rfl rfl fun KC => ?_) | (refine mops_step1 rfl fun KC => ?_) | (refine mops_step2 rfl fun KC => ?_) | (refine AWp.ret ?_) | (refine AWp.skip ?_) | (refine AWp.exit ?_) | (refine aops_callH rfl fun kC => ?_) | (refine qops_callH rfl fun kC => ?_) | (refine AWp.condB ?_) | (simp only [bse, wk, tys, storeH_ptr, Nat.reduceEqDiff, ↓reduceIte, reduceCtorEq, Nat.reduceAdd, Nat.reduceLeDiff, Int.reduceBEq, Int.reduceLT, Int.reduceLE, Int.reduceEq, ne_eq, not_false_eq_true, Nat.reduceMul, nodeE_val, nodeE_sz, intsResultE_val, treeResultE_val, *]) | (refine condK_bool (fun hb => ?_) (fun hb => ?_) <;> ((try simp only [Bool.not_eq_true', Bool.not_eq_false'] at hb) <;> (try (have hbe := of_decide_eq_true hb)) <;> (try (have hbe := eq_of_beq hb)))) | (refine aops_partB ?_) | (refine qops_partB ?_))
    refine hJ.out _ _ ⟨hgt xs (upId xs cur), hg1, upId xs cur, _, _, _, cur :: ys, _, rfl, ?_, rfl, rfl, hnx.out, SlM.blk (r := H'.length) (by rw [get_app0]; rfl) (by simp) (by simp), hs⟩ (by repeat (first | exact Agree.refl _ _ | assumption | refine Agree.put ?_ rfl _))
    rw [hu.out]
    rfl
theorem spec_PathTo (xs : List TNode) (id : Int) (hn : xs.length ≤ 1048576) : PCalls Try.prog 47 [islE nodeE xs, .int .i64 id] (intsResultE.val (pathToF xs id)) := by
  unfold pathToF
  cases hc : (treeFault xs == 0) with
  | false =>
    simp only [Bool.false_eq_true, if_false]
    refine PCalls.of ?_; refine ACalls.enter (n := 25) (rs := [.cell 4 33]) Try.func47 rfl rfl rfl (by kernel_rfl) (by kernel_rfl) (by kernel_rfl) (Nat.le_of_ble_eq_true rfl) ?_
    repeat' (first | (refine ACalls.start ?_; first | (refine ACalls.ofJi (spec_l9Fault xs (by omega)) rfl ?_)) | (refine qcall_start ?_; first | (refine qcallFi (spec_l9Fault xs (by omega)) rfl ?_ ?_; (focus ((first | exact rfl | (simp [pureV, flatV, nodeE_val, nodeE_sz, intsResultE_val, treeResultE_val]; done)))))) | (refine KV.run _ ?_) | (refine KQ.run _ ?_) | (refine KT.run _ ?_) | (refine AWp.seqH fun KC => ?_) | (refine AWp.block ?_) | (refine AWp.region ?_) | (refine mops_step0 rfl rfl fun KC => ?_) | (refine mops_step1 rfl fun KC => ?_) | (refine mops_step2 rfl fun KC => ?_) | (refine AWp.ret ?_) | (refine AWp.skip ?_) | (refine AWp.exit ?_) | (refine aops_callH rfl fun kC => ?_) | (refine qops_callH rfl fun kC => ?_) | (refine AWp.condB ?_) | (simp only [bse, wk, tys, storeH_ptr, Nat.reduceEqDiff, ↓reduceIte, reduceCtorEq, Nat.reduceAdd, Nat.reduceLeDiff, Int.reduceBEq, Int.reduceLT, Int.reduceLE, Int.reduceEq, ne_eq, not_false_eq_true, Nat.reduceMul, nodeE_val, nodeE_sz, intsResultE_val, treeResultE_val, *]) | (refine condK_bool (fun hb => ?_) (fun hb => ?_) <;> ((try simp only [Bool.not_eq_true', Bool.not_eq_false'] at hb) <;> (try (have hbe := of_decide_eq_true hb)) <;> (try (have hbe := eq_of_beq hb)))) | (refine aops_partB ?_) | (refine qops_partB ?_))
    exact Bor.aggL (.cons (.same _ (.flat _ rfl)) (.cons .nil .nil))
  | true =>
    have R := Right.of (eq_of_beq hc)
    simp only [if_true]
    by_cases h1 : id = 0
    · subst h1
      simp only [beq_self_eq_true, Bool.not_true, Bool.false_and, Bool.false_eq_true, if_false]
      refine PCalls.val (by first | exact islE_im _ _ | exact Enc.val_im _ _ | exact Im.flat _ rfl | (repeat' (first | exact Im.nilL | refine Im.consL ?_ ?_ | exact Im.flat _ rfl | exact islE_im _ _ | exact Enc.val_im _ _ | refine Im.aggL ?_ | refine Im.tupleL ?_ | refine Im.isl ?_))) ?_; refine ACalls.enter (n := 25) (rs := [.cell 4 33]) Try.func47 rfl rfl rfl (by kernel_rfl) (by kernel_rfl) (by kernel_rfl) (Nat.le_of_ble_eq_true rfl) ?_
      repeat' (first | (refine ACalls.start ?_; first | (refine ACalls.ofJi (spec_l9Fault xs (by omega)) rfl ?_) | (refine ACalls.ofJi (spec_l9At xs _ (by omega)) rfl ?_) | (refine ACalls.ofJi (spec_l9Path xs R 0 (.inl rfl)) rfl ?_)) | (refine qcall_start ?_; first | (refine qcallFi (spec_l9Fault xs (by omega)) rfl ?_ ?_; (focus ((first | exact rfl | (simp [pureV, flatV, nodeE_val, nodeE_sz, intsResultE_val, treeResultE_val]; done))))) | (refine qcallFi (spec_l9At xs _ (by omega)) rfl ?_ ?_; (focus ((first | exact rfl | (simp [pureV, flatV, nodeE_val, nodeE_sz, intsResultE_val, treeResultE_val]; done))))) | (refine qcallFi (spec_l9Path xs R 0 (.inl rfl)) rfl ?_ ?_; (focus ((first | exact rfl | (simp [pureV, flatV, nodeE_val, nodeE_sz, intsResultE_val, treeResultE_val]; done)))))) | (refine KV.run _ ?_) | (refine KQ.run _ ?_) | (refine KT.run _ ?_) | (refine AWp.seqH fun KC => ?_) | (refine AWp.block ?_) | (refine AWp.region ?_) | (refine mops_step0 rfl rfl fun KC => ?_) | (refine mops_step1 rfl fun KC => ?_) | (refine mops_step2 rfl fun KC => ?_) | (refine AWp.ret ?_) | (refine AWp.skip ?_) | (refine AWp.exit ?_) | (refine aops_callH rfl fun kC => ?_) | (refine qops_callH rfl fun kC => ?_) | (refine AWp.condB ?_) | (simp only [bse, wk, tys, storeH_ptr, Nat.reduceEqDiff, ↓reduceIte, reduceCtorEq, Nat.reduceAdd, Nat.reduceLeDiff, Int.reduceBEq, Int.reduceLT, Int.reduceLE, Int.reduceEq, ne_eq, not_false_eq_true, Nat.reduceMul, nodeE_val, nodeE_sz, intsResultE_val, treeResultE_val, *]) | (refine condK_bool (fun hb => ?_) (fun hb => ?_) <;> ((try simp only [Bool.not_eq_true', Bool.not_eq_false'] at hb) <;> (try (have hbe := of_decide_eq_true hb)) <;> (try (have hbe := eq_of_beq hb)))) | (refine aops_partB ?_) | (refine qops_partB ?_))
    · have h1' : (id == 0) = false := by simpa using h1
      by_cases h2 : ndAt xs id < 0
      · simp only [h1', h2, decide_true, Bool.not_false, Bool.true_and, if_true]
        clear h1
        refine PCalls.of ?_; refine ACalls.enter (n := 25) (rs := [.cell 4 33]) Try.func47 rfl rfl rfl (by kernel_rfl) (by kernel_rfl) (by kernel_rfl) (Nat.le_of_ble_eq_true rfl) ?_
        repeat' (first | (refine ACalls.start ?_; first | (refine ACalls.ofJi (spec_l9Fault xs (by omega)) rfl ?_) | (refine ACalls.ofJi (spec_l9At xs _ (by omega)) rfl ?_)) | (refine qcall_start ?_; first | (refine qcallFi (spec_l9Fault xs (by omega)) rfl ?_ ?_; (focus ((first | exact rfl | (simp [pureV, flatV, nodeE_val, nodeE_sz, intsResultE_val, treeResultE_val]; done))))) | (refine qcallFi (spec_l9At xs _ (by omega)) rfl ?_ ?_; (focus ((first | exact rfl | (simp [pureV, flatV, nodeE_val, nodeE_sz, intsResultE_val, treeResultE_val]; done)))))) | (refine KV.run _ ?_) | (refine KQ.run _ ?_) | (refine KT.run _ ?_) | (refine AWp.seqH fun KC => ?_) | (refine AWp.block ?_) | (refine AWp.region ?_) | (refine mops_step0 rfl rfl fun KC => ?_) | (refine mops_step1 rfl fun KC => ?_) | (refine mops_step2 rfl fun KC => ?_) | (refine AWp.ret ?_) | (refine AWp.skip ?_) | (refine AWp.exit ?_) | (refine aops_callH rfl fun kC => ?_) | (refine qops_callH rfl fun kC => ?_) | (refine AWp.condB ?_) | (simp only [bse, wk, tys, storeH_ptr, Nat.reduceEqDiff, ↓reduceIte, reduceCtorEq, Nat.reduceAdd, Nat.reduceLeDiff, Int.reduceBEq, Int.reduceLT, Int.reduceLE, Int.reduceEq, ne_eq, not_false_eq_true, Nat.reduceMul, nodeE_val, nodeE_sz, intsResultE_val, treeResultE_val, *]) | (refine condK_bool (fun hb => ?_) (fun hb => ?_) <;> ((try simp only [Bool.not_eq_true', Bool.not_eq_false'] at hb) <;> (try (have hbe := of_decide_eq_true hb)) <;> (try (have hbe := eq_of_beq hb)))) | (refine aops_partB ?_) | (refine qops_partB ?_))
        exact Bor.aggL (.cons (.same _ (.flat _ rfl)) (.cons .nil .nil))
      · simp only [h1', h2, decide_false, Bool.and_false, Bool.false_eq_true, if_false]
        have h3 : 0 ≤ ndAt xs id := by omega
        clear h1
        refine PCalls.val (by first | exact islE_im _ _ | exact Enc.val_im _ _ | exact Im.flat _ rfl | (repeat' (first | exact Im.nilL | refine Im.consL ?_ ?_ | exact Im.flat _ rfl | exact islE_im _ _ | exact Enc.val_im _ _ | refine Im.aggL ?_ | refine Im.tupleL ?_ | refine Im.isl ?_))) ?_; refine ACalls.enter (n := 25) (rs := [.cell 4 33]) Try.func47 rfl rfl rfl (by kernel_rfl) (by kernel_rfl) (by kernel_rfl) (Nat.le_of_ble_eq_true rfl) ?_
        repeat' (first | (refine ACalls.start ?_; first | (refine ACalls.ofJi (spec_l9Fault xs (by omega)) rfl ?_) | (refine ACalls.ofJi (spec_l9At xs _ (by omega)) rfl ?_) | (refine ACalls.ofJi (spec_l9Path xs R id (.inr h3)) rfl ?_)) | (refine qcall_start ?_; first | (refine qcallFi (spec_l9Fault xs (by omega)) rfl ?_ ?_; (focus ((first | exact rfl | (simp [pureV, flatV, nodeE_val, nodeE_sz, intsResultE_val, treeResultE_val]; done))))) | (refine qcallFi (spec_l9At xs _ (by omega)) rfl ?_ ?_; (focus ((first | exact rfl | (simp [pureV, flatV, nodeE_val, nodeE_sz, intsResultE_val, treeResultE_val]; done))))) | (refine qcallFi (spec_l9Path xs R id (.inr h3)) rfl ?_ ?_; (focus ((first | exact rfl | (simp [pureV, flatV, nodeE_val, nodeE_sz, intsResultE_val, treeResultE_val]; done)))))) | (refine KV.run _ ?_) | (refine KQ.run _ ?_) | (refine KT.run _ ?_) | (refine AWp.seqH fun KC => ?_) | (refine AWp.block ?_) | (refine AWp.region ?_) | (refine mops_step0 rfl rfl fun KC => ?_) | (refine mops_step1 rfl fun KC => ?_) | (refine mops_step2 rfl fun KC => ?_) | (refine AWp.ret ?_) | (refine AWp.skip ?_) | (refine AWp.exit ?_) | (refine aops_callH rfl fun kC => ?_) | (refine qops_callH rfl fun kC => ?_) | (refine AWp.condB ?_) | (simp only [bse, wk, tys, storeH_ptr, Nat.reduceEqDiff, ↓reduceIte, reduceCtorEq, Nat.reduceAdd, Nat.reduceLeDiff, Int.reduceBEq, Int.reduceLT, Int.reduceLE, Int.reduceEq, ne_eq, not_false_eq_true, Nat.reduceMul, nodeE_val, nodeE_sz, intsResultE_val, treeResultE_val, *]) | (refine condK_bool (fun hb => ?_) (fun hb => ?_) <;> ((try simp only [Bool.not_eq_true', Bool.not_eq_false'] at hb) <;> (try (have hbe := of_decide_eq_true hb)) <;> (try (have hbe := eq_of_beq hb)))) | (refine aops_partB ?_) | (refine qops_partB ?_))
end Go.BM
