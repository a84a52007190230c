/- Trees: what is above, paths, forks. -/
import Derived.Test.YtfggnccpbdfpeaaGreatT5
import Derived.Test.YtfggnccpbdfpeaaGreatC25
set_option linter.unusedVariables false
set_option linter.unusedSimpArgs false
set_option maxRecDepth 100000
set_option maxHeartbeats 4000000
namespace Go.BM
open Go.Proofs Go.RowKit
attribute [local irreducible] ACalls AWp aops qops optK optP cK gateA condK mops qcallK PCalls loadV fldV idxV lenV slV storeH binS
theorem above_step {xs : List TNode} (R : Right xs) (a cur : Int) (h : 0 ≤ ndAt xs cur) : (path xs cur).any (fun x => a == x) = (a == cur || (path xs (upId xs cur)).any fun x => a == x) := by
  rw [R.path_some h]
  rfl
theorem spec_l9Above (xs : List TNode) (R : Right xs) (a b : Int) : PCalls Tryz.prog 96 [islE nodeE xs, .int .i64 a, .int .i64 b] (.bool (above xs a b)) := by
  have hn := R.len
  refine PCalls.flat rfl ?_; refine ACalls.enter (n := 23) (rs := [.tmp 6]) Tryz.func96 rfl rfl rfl (by kernel_rfl) (by kernel_rfl) (by kernel_rfl) (Nat.le_of_ble_eq_true rfl) ?_
  repeat' (first | (refine KV.run _ ?_) | (refine KQ.run _ ?_) | (refine KT.run _ ?_) | (refine AWp.seqH fun KC => ?_) | (refine AWp.block ?_) | (refine AWp.region ?_) | (refine mops_step0 rfl rfl fun KC => ?_) | (refine mops_step1 rfl fun KC => ?_) | (refine mops_step2 rfl fun KC => ?_) | (refine AWp.ret ?_) | (refine AWp.skip ?_) | (refine AWp.exit ?_) | (refine aops_callH rfl fun kC => ?_) | (refine qops_callH rfl fun kC => ?_) | (refine AWp.condB ?_) | (simp only [bse, wk, tys, storeH_ptr, Nat.reduceEqDiff, ↓reduceIte, reduceCtorEq, Nat.reduceAdd, Nat.reduceLeDiff, Int.reduceBEq, Int.reduceLT, Int.reduceLE, Int.reduceEq, ne_eq, not_false_eq_true, Nat.reduceMul, nodeE_val, nodeE_sz, *]) | (refine condK_bool (fun hb => ?_) (fun hb => ?_) <;> ((try simp only [Bool.not_eq_true', Bool.not_eq_false'] at hb) <;> (try (have hbe := of_decide_eq_true hb)) <;> (try (have hbe := eq_of_beq hb)))) | (refine aops_partB ?_) | (refine qops_partB ?_))
  refine AWp.loopH [8, 9, 10, 11, 12, 7, 13, 14, 6, 15, 16, 17, 18, 19, 20, 21, 22, 2] (fun m e' H' => ∃ cur : Int, m = hgt xs cur ∧ e' 2 = .int .i64 cur ∧ H' = [] ∧ Hid (above xs a b = (path xs cur).any fun x => a == x)) (hgt xs b) ⟨b, rfl, rfl, rfl, rfl⟩ ?_
  rintro m e' H' hA ⟨cur, rfl, h2, rfl, hF⟩ hJ
  have a0 := hA 0 rfl; have a1 := hA 1 rfl; try simp only [bse, wk, tys, storeH_ptr, Nat.reduceEqDiff, ↓reduceIte, reduceCtorEq, Nat.reduceAdd, Nat.reduceLeDiff, Int.reduceBEq, Int.reduceLT, Int.reduceLE, Int.reduceEq, ne_eq, not_false_eq_true, Nat.reduceMul] at a0 a1; clear hA
  by_cases h0 : cur = 0
  · subst h0
    have hs : Hid (above xs a b = false) := by rw [hF.out, path_none R.zero]; rfl
    repeat' (first | (refine KV.run _ ?_) | (refine KQ.run _ ?_) | (refine KT.run _ ?_) | (refine AWp.seqH fun KC => ?_) | (refine AWp.block ?_) | (refine AWp.region ?_) | (refine mops_step0 rfl rfl fun KC => ?_) | (refine mops_step1 rfl fun KC => ?_) | (refine mops_step2 rfl fun KC => ?_) | (refine AWp.ret ?_) | (refine AWp.skip ?_) | (refine AWp.exit ?_) | (refine aops_callH rfl fun kC => ?_) | (refine qops_callH rfl fun kC => ?_) | (refine AWp.condB ?_) | (simp only [bse, wk, tys, storeH_ptr, Nat.reduceEqDiff, ↓reduceIte, reduceCtorEq, Nat.reduceAdd, Nat.reduceLeDiff, Int.reduceBEq, Int.reduceLT, Int.reduceLE, Int.reduceEq, ne_eq, not_false_eq_true, Nat.reduceMul, nodeE_val, nodeE_sz, *]) | (refine condK_bool (fun hb => ?_) (fun hb => ?_) <;> ((try simp only [Bool.not_eq_true', Bool.not_eq_false'] at hb) <;> (try (have hbe := of_decide_eq_true hb)) <;> (try (have hbe := eq_of_beq hb)))) | (refine aops_partB ?_) | (refine qops_partB ?_))
    rw [hs.out]
  · have h0' : (cur == 0) = false := by simpa using h0
    clear h0
    by_cases hp : 0 ≤ ndAt xs cur
    · obtain ⟨k, hk, e, e1, _⟩ := ndAt_lt hp
      have hs : Hid _ := hF.out.trans (above_step R a cur hp)
      have hu : Hid (upId xs cur = xs[k].prev) := by unfold Hid upId; rw [e, pOf_at hk]
      have hg := (R.hgt_up hp).1
      have hlt' : (k : Int) < (xs.length : Int) := by omega
      have hpn : ¬ (k : Int) < 0 := by omega
      clear hp e1
      cases hc : (a == cur) with
      | true =>
        rw [hc] at hs
        repeat' (first | (refine ACalls.start ?_; first | (refine ACalls.ofJi (spec_l9At xs _ (by omega)) rfl ?_)) | (refine qcall_start ?_; first | (refine qcallFi (spec_l9At xs _ (by omega)) rfl ?_ ?_; (focus ((first | exact rfl | (simp [pureV, flatV, nodeE_val, nodeE_sz]; done)))))) | (refine KV.run _ ?_) | (refine KQ.run _ ?_) | (refine KT.run _ ?_) | (refine AWp.seqH fun KC => ?_) | (refine AWp.block ?_) | (refine AWp.region ?_) | (refine mops_step0 rfl rfl fun KC => ?_) | (refine mops_step1 rfl fun KC => ?_) | (refine mops_step2 rfl fun KC => ?_) | (refine AWp.ret ?_) | (refine AWp.skip ?_) | (refine AWp.exit ?_) | (refine aops_callH rfl fun kC => ?_) | (refine qops_callH rfl fun kC => ?_) | (refine AWp.condB ?_) | (simp only [bse, wk, tys, storeH_ptr, Nat.reduceEqDiff, ↓reduceIte, reduceCtorEq, Nat.reduceAdd, Nat.reduceLeDiff, Int.reduceBEq, Int.reduceLT, Int.reduceLE, Int.reduceEq, ne_eq, not_false_eq_true, Nat.reduceMul, nodeE_val, nodeE_sz, *]) | (refine condK_bool (fun hb => ?_) (fun hb => ?_) <;> ((try simp only [Bool.not_eq_true', Bool.not_eq_false'] at hb) <;> (try (have hbe := of_decide_eq_true hb)) <;> (try (have hbe := eq_of_beq hb)))) | (refine aops_partB ?_) | (refine qops_partB ?_))
        rw [hs.out]
        rfl
      | false =>
        rw [hc, Bool.false_or] at hs
        repeat' (first | (refine ACalls.start ?_; first | (refine ACalls.ofJi (spec_l9At xs _ (by omega)) rfl ?_)) | (refine qcall_start ?_; first | (refine qcallFi (spec_l9At xs _ (by omega)) rfl ?_ ?_; (focus ((first | exact rfl | (simp [pureV, flatV, nodeE_val, nodeE_sz]; done)))))) | (refine KV.run _ ?_) | (refine KQ.run _ ?_) | (refine KT.run _ ?_) | (refine AWp.seqH fun KC => ?_) | (refine AWp.block ?_) | (refine AWp.region ?_) | (refine mops_step0 rfl rfl fun KC => ?_) | (refine mops_step1 rfl fun KC => ?_) | (refine mops_step2 rfl fun KC => ?_) | (refine AWp.ret ?_) | (refine AWp.skip ?_) | (refine AWp.exit ?_) | (refine aops_callH rfl fun kC => ?_) | (refine qops_callH rfl fun kC => ?_) | (refine AWp.condB ?_) | (simp only [bse, wk, tys, storeH_ptr, Nat.reduceEqDiff, ↓reduceIte, reduceCtorEq, Nat.reduceAdd, Nat.reduceLeDiff, Int.reduceBEq, Int.reduceLT, Int.reduceLE, Int.reduceEq, ne_eq, not_false_eq_true, Nat.reduceMul, nodeE_val, nodeE_sz, *]) | (refine condK_bool (fun hb => ?_) (fun hb => ?_) <;> ((try simp only [Bool.not_eq_true', Bool.not_eq_false'] at hb) <;> (try (have hbe := of_decide_eq_true hb)) <;> (try (have hbe := eq_of_beq hb)))) | (refine aops_partB ?_) | (refine qops_partB ?_))
        refine hJ.out _ _ ⟨hgt xs (upId xs cur), by omega, upId xs cur, rfl, ?_, rfl, hs⟩ (by repeat (first | exact Agree.refl _ _ | assumption | refine Agree.put ?_ rfl _))
        rw [hu.out]
        rfl
    · have hpn : ndAt xs cur < 0 := by omega
      have hs : Hid (above xs a b = false) := by rw [hF.out, path_none hpn]; rfl
      clear hp
      repeat' (first | (refine ACalls.start ?_; first | (refine ACalls.ofJi (spec_l9At xs _ (by omega)) rfl ?_)) | (refine qcall_start ?_; first | (refine qcallFi (spec_l9At xs _ (by omega)) rfl ?_ ?_; (focus ((first | exact rfl | (simp [pureV, flatV, nodeE_val, nodeE_sz]; done)))))) | (refine KV.run _ ?_) | (refine KQ.run _ ?_) | (refine KT.run _ ?_) | (refine AWp.seqH fun KC => ?_) | (refine AWp.block ?_) | (refine AWp.region ?_) | (refine mops_step0 rfl rfl fun KC => ?_) | (refine mops_step1 rfl fun KC => ?_) | (refine mops_step2 rfl fun KC => ?_) | (refine AWp.ret ?_) | (refine AWp.skip ?_) | (refine AWp.exit ?_) | (refine aops_callH rfl fun kC => ?_) | (refine qops_callH rfl fun kC => ?_) | (refine AWp.condB ?_) | (simp only [bse, wk, tys, storeH_ptr, Nat.reduceEqDiff, ↓reduceIte, reduceCtorEq, Nat.reduceAdd, Nat.reduceLeDiff, Int.reduceBEq, Int.reduceLT, Int.reduceLE, Int.reduceEq, ne_eq, not_false_eq_true, Nat.reduceMul, nodeE_val, nodeE_sz, *]) | (refine condK_bool (fun hb => ?_) (fun hb => ?_) <;> ((try simp only [Bool.not_eq_true', Bool.not_eq_false'] at hb) <;> (try (have hbe := of_decide_eq_true hb)) <;> (try (have hbe := eq_of_beq hb)))) | (refine aops_partB ?_) | (refine qops_partB ?_))
      rw [hs.out]
theorem impl_pathTo_own (xs : List TNode) (R : Right xs) (id : Int) : NCalls Tryz.prog 103 [islE nodeE xs, .int .i64 id] (islE intE (path xs id).reverse) := by
  have hn := R.len
  refine NCalls.of ?_; refine ACalls.enter (n := 31) (rs := [.tmp 4]) Tryz.func103 rfl rfl rfl (by kernel_rfl) (by kernel_rfl) (by kernel_rfl) (Nat.le_of_ble_eq_true rfl) ?_
  repeat' (first | (refine ACalls.start ?_; first | (refine ACalls.ofJi (impl_findNode xs _ (by omega)) rfl ?_)) | (refine qcall_start ?_; first | (refine qcallFi (impl_findNode xs _ (by omega)) rfl ?_ ?_; (focus ((first | exact rfl | (simp [pureV, flatV, nodeE_val, nodeE_sz]; done)))))) | (refine KV.run _ ?_) | (refine KQ.run _ ?_) | (refine KT.run _ ?_) | (refine AWp.seqH fun KC => ?_) | (refine AWp.block ?_) | (refine AWp.region ?_) | (refine mops_step0 rfl rfl fun KC => ?_) | (refine mops_step1 rfl fun KC => ?_) | (refine mops_step2 rfl fun KC => ?_) | (refine AWp.ret ?_) | (refine AWp.skip ?_) | (refine AWp.exit ?_) | (refine aops_callH rfl fun kC => ?_) | (refine qops_callH rfl fun kC => ?_) | (refine AWp.condB ?_) | (simp only [bse, wk, tys, storeH_ptr, Nat.reduceEqDiff, ↓reduceIte, reduceCtorEq, Nat.reduceAdd, Nat.reduceLeDiff, Int.reduceBEq, Int.reduceLT, Int.reduceLE, Int.reduceEq, ne_eq, not_false_eq_true, Nat.reduceMul, nodeE_val, nodeE_sz, *]) | (refine condK_bool (fun hb => ?_) (fun hb => ?_) <;> ((try simp only [Bool.not_eq_true', Bool.not_eq_false'] at hb) <;> (try (have hbe := of_decide_eq_true hb)) <;> (try (have hbe := eq_of_beq hb)))) | (refine aops_partB ?_) | (refine qops_partB ?_))
  refine AWp.loopH [11, 12, 20, 21, 22, 23, 24, 25, 26, 27, 5, 13, 14, 15, 16, 17, 18, 19, 6] (fun m e' H' => ∃ (cur : Int) (ys : List Int) (ver : Nat) (G : AH), m = hgt xs cur ∧ e' 6 = .int .i64 (ndAt xs cur) ∧ e' 5 = .slice (some ⟨0, 0, none⟩) ys.length ver ∧ H' = ⟨2, 1, intE.flat ys, ver, true⟩ :: G ∧ Hid (path xs id = ys ++ path xs cur)) (hgt xs id) ⟨id, [], 0, [], rfl, rfl, rfl, rfl, rfl⟩ ?_
  rintro m e' H' hA ⟨cur, ys, ver, G, rfl, h6, h5, rfl, hF⟩ hJ
  have a0 := hA 0 rfl; have a4 := hA 4 rfl; try simp only [bse, wk, tys, storeH_ptr, Nat.reduceEqDiff, ↓reduceIte, reduceCtorEq, Nat.reduceAdd, Nat.reduceLeDiff, Int.reduceBEq, Int.reduceLT, Int.reduceLE, Int.reduceEq, ne_eq, not_false_eq_true, Nat.reduceMul] at a0 a4; clear hA
  have hyl : ys.length ≤ 40 := by have := R.path_len id; have := R.hgt_le id; rw [hF.out, List.length_append] at *; omega
  by_cases hp : 0 ≤ ndAt xs cur
  · obtain ⟨k, hk, e, e1, _⟩ := ndAt_lt hp
    have hu : Hid (upId xs cur = xs[k].prev) := by unfold Hid upId; rw [e, pOf_at hk]
    have hg := (R.hgt_up hp).1
    have hs : Hid (path xs id = (ys ++ [xs[k].id]) ++ path xs (upId xs cur)) := by unfold Hid; rw [hF.out, R.path_some hp, e1]; simp
    have hlt' : (k : Int) < (xs.length : Int) := by omega
    have hap := appendH_sb (P := Tryz.prog) (B := 0) (H := ⟨2, 1, intE.flat ys, ver, true⟩ :: (G ++ [⟨2, 1, [.int .i64 xs[k].id], 0, true⟩])) (E := intE) (xs := ys) (ys := [xs[k].id]) (r := 0) (x := .slice (some ⟨G.length + 1, 0, none⟩) 1 0) (tx := 22) elZ22 zOk22 rfl (Nat.le_refl _)
      (srcV_own elZ22 (by rw [List.getElem?_cons_succ, get_app0]; rfl) rfl rfl rfl (Nat.le_refl _)) (by simp; omega) (by simp; omega)
    simp only [sb_eq, intE_sz, List.length_cons, List.length_nil, Nat.zero_add, List.length_append, Bool.true_or] at hap
    clear hp e1
    rw [e] at h6
    repeat' (first | (refine ACalls.start ?_; first | (refine ACalls.ofJi (impl_findNode xs _ (by omega)) rfl ?_)) | (refine qcall_start ?_; first | (refine qcallFi (impl_findNode xs _ (by omega)) rfl ?_ ?_; (focus ((first | exact rfl | (simp [pureV, flatV, nodeE_val, nodeE_sz]; done)))))) | (refine KV.run _ ?_) | (refine KQ.run _ ?_) | (refine KT.run _ ?_) | (refine AWp.seqH fun KC => ?_) | (refine AWp.block ?_) | (refine AWp.region ?_) | (refine mops_step0 rfl rfl fun KC => ?_) | (refine mops_step1 rfl fun KC => ?_) | (refine mops_step2 rfl fun KC => ?_) | (refine AWp.ret ?_) | (refine AWp.skip ?_) | (refine AWp.exit ?_) | (refine aops_callH rfl fun kC => ?_) | (refine qops_callH rfl fun kC => ?_) | (refine AWp.condB ?_) | (simp only [bse, wk, tys, storeH_ptr, Nat.reduceEqDiff, ↓reduceIte, reduceCtorEq, Nat.reduceAdd, Nat.reduceLeDiff, Int.reduceBEq, Int.reduceLT, Int.reduceLE, Int.reduceEq, ne_eq, not_false_eq_true, Nat.reduceMul, nodeE_val, nodeE_sz, *]) | (refine condK_bool (fun hb => ?_) (fun hb => ?_) <;> ((try simp only [Bool.not_eq_true', Bool.not_eq_false'] at hb) <;> (try (have hbe := of_decide_eq_true hb)) <;> (try (have hbe := eq_of_beq hb)))) | (refine aops_partB ?_) | (refine qops_partB ?_))
    refine hJ.out _ _ ⟨hgt xs (upId xs cur), by omega, upId xs cur, ys ++ [xs[k].id], ver + 1, _, rfl, ?_, ?_, rfl, hs⟩ (by repeat (first | exact Agree.refl _ _ | assumption | refine Agree.put ?_ rfl _))
    · rw [hu.out]
      rfl
    · simp [put]
  · have hpn : ¬ 0 ≤ ndAt xs cur := hp
    have hs : Hid (ys = path xs id) := by have := hF.out; rw [path_none (xs := xs) (id := cur) (by omega), List.append_nil] at this; exact this.symm
    clear hp hF
    repeat' (first | (refine ACalls.start ?_; first | (refine ACalls.get (lib_Reverse_int 0 _ 0 ver _ ys true rfl (fun _ => rfl) (Nat.le_refl _) (by omega)) (by first | exact Nat.le_refl _ | exact Nat.zero_le _ | (simp only [List.length_append, List.length_cons, List.length_nil]; omega) | (simp only [List.length_set]; omega) | omega) (by first | exact Nat.le_refl _ | exact Nat.zero_le _ | (simp only [List.length_append, List.length_cons, List.length_nil]; omega) | (simp only [List.length_set]; omega) | omega) ?_; rintro _ _ rfl)) | (refine KV.run _ ?_) | (refine KQ.run _ ?_) | (refine KT.run _ ?_) | (refine AWp.seqH fun KC => ?_) | (refine AWp.block ?_) | (refine AWp.region ?_) | (refine mops_step0 rfl rfl fun KC => ?_) | (refine mops_step1 rfl fun KC => ?_) | (refine mops_step2 rfl fun KC => ?_) | (refine AWp.ret ?_) | (refine AWp.skip ?_) | (refine AWp.exit ?_) | (refine aops_callH rfl fun kC => ?_) | (refine qops_callH rfl fun kC => ?_) | (refine AWp.condB ?_) | (simp only [bse, wk, tys, storeH_ptr, Nat.reduceEqDiff, ↓reduceIte, reduceCtorEq, Nat.reduceAdd, Nat.reduceLeDiff, Int.reduceBEq, Int.reduceLT, Int.reduceLE, Int.reduceEq, ne_eq, not_false_eq_true, Nat.reduceMul, nodeE_val, nodeE_sz, *]) | (refine condK_bool (fun hb => ?_) (fun hb => ?_) <;> ((try simp only [Bool.not_eq_true', Bool.not_eq_false'] at hb) <;> (try (have hbe := of_decide_eq_true hb)) <;> (try (have hbe := eq_of_beq hb)))) | (refine aops_partB ?_) | (refine qops_partB ?_))
    rw [← hs.out]
    exact ⟨[0], by simp, OwnL.sbO (el := 2) (o := true) rfl (fun _ => rfl) (by simp) (intE_flat _)⟩
theorem impl_pathTo (xs : List TNode) (R : Right xs) (id : Int) : PCalls Tryz.prog 103 [islE nodeE xs, .int .i64 id] (islE intE (path xs id).reverse) := (impl_pathTo_own xs R id).p
theorem impl_isAbove (xs : List TNode) (R : Right xs) (a b : Int) : PCalls Tryz.prog 86 [islE nodeE xs, .int .i64 a, .int .i64 b] (.bool (above xs a b)) := by
  have hl : (path xs b).length ≤ 40 := by have := R.path_len b; have := R.hgt_le b; omega
  have ha : ((path xs b).reverse.any fun x => a == x) = above xs a b := by unfold above; simp
  have hr : (path xs b).reverse.length < 4611686018427387904 := by rw [List.length_reverse]; omega
  refine PCalls.flat rfl ?_; refine ACalls.enter (n := 12) (rs := [.tmp 6]) Tryz.func86 rfl rfl rfl (by kernel_rfl) (by kernel_rfl) (by kernel_rfl) (Nat.le_of_ble_eq_true rfl) ?_
  repeat' (first | (refine ACalls.start ?_; first | (refine ACalls.ofJi (impl_pathTo xs R b) rfl ?_) | (refine ACalls.ofJi (lib_Contains_int _ a hr) rfl ?_)) | (refine qcall_start ?_; first | (refine qcallFi (impl_pathTo xs R b) rfl ?_ ?_; (focus ((first | exact rfl | (simp [pureV, flatV, nodeE_val, nodeE_sz]; done))))) | (refine qcallFi (lib_Contains_int _ a hr) rfl ?_ ?_; (focus ((first | exact rfl | (simp [pureV, flatV, nodeE_val, nodeE_sz]; done)))))) | (refine KV.run _ ?_) | (refine KQ.run _ ?_) | (refine KT.run _ ?_) | (refine AWp.seqH fun KC => ?_) | (refine AWp.block ?_) | (refine AWp.region ?_) | (refine mops_step0 rfl rfl fun KC => ?_) | (refine mops_step1 rfl fun KC => ?_) | (refine mops_step2 rfl fun KC => ?_) | (refine AWp.ret ?_) | (refine AWp.skip ?_) | (refine AWp.exit ?_) | (refine aops_callH rfl fun kC => ?_) | (refine qops_callH rfl fun kC => ?_) | (refine AWp.condB ?_) | (simp only [bse, wk, tys, storeH_ptr, Nat.reduceEqDiff, ↓reduceIte, reduceCtorEq, Nat.reduceAdd, Nat.reduceLeDiff, Int.reduceBEq, Int.reduceLT, Int.reduceLE, Int.reduceEq, ne_eq, not_false_eq_true, Nat.reduceMul, nodeE_val, nodeE_sz, *]) | (refine condK_bool (fun hb => ?_) (fun hb => ?_) <;> ((try simp only [Bool.not_eq_true', Bool.not_eq_false'] at hb) <;> (try (have hbe := of_decide_eq_true hb)) <;> (try (have hbe := eq_of_beq hb)))) | (refine aops_partB ?_) | (refine qops_partB ?_))
def isAboveT (xs : List TNode) (a b : Int) : Bool := treeFault xs == 0 && above xs a b
def relatedF (xs : List TNode) (a b : Int) : Bool := treeFault xs == 0 && relatedT xs a b
end Go.BM
