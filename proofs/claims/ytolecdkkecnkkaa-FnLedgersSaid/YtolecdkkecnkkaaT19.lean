/- SignsOf: both sides. -/
import Derived.Test.YtolecdkkecnkkaaT15
import Derived.Test.YtolecdkkecnkkaaU2
set_option linter.unusedVariables false
set_option linter.unusedSimpArgs false
set_option maxRecDepth 100000
set_option maxHeartbeats 4000000
namespace Go.BM
open Go.Proofs Go.RowKit
attribute [local irreducible] ACalls AWp aops qops optK optP cK gateA condK mops qcallK PCalls loadV fldV idxV lenV slV storeH binS
def sgK (xs : List TSign) (id : Int) : List Int := (xs.filter fun s => s.id == id).map fun s => s.key
theorem sgK_step (xs : List TSign) (id : Int) (k : Nat) (hk : k < xs.length) : sgK (xs.take (k + 1)) id = if xs[k].id == id then sgK (xs.take k) id ++ [xs[k].key] else sgK (xs.take k) id := by
  unfold sgK
  rw [filter_step _ xs k hk]
  split <;> simp
theorem sgK_le (xs : List TSign) (id : Int) : (sgK xs id).length ≤ xs.length := by
  unfold sgK
  rw [List.length_map]
  exact List.length_filter_le _ _
def signsOfF (l : TLedger) (id : Int) : TIntsResult := if ledgerFault l == 0 then (if inB id 1 l.texts.length then ⟨0, sgK l.signs id⟩ else ⟨3, []⟩) else ⟨ledgerFault l, []⟩
theorem nR_SignsOf (l : TLedger) (id : Int) (h : nLedger l ≤ 1048576) : nIntsResult (signsOfF l id) ≤ 1048576 := by
  have h2 := nLedger_signs h
  have h3 := sgK_le l.signs id
  unfold nIntsResult signsOfF
  split
  · split
    · show (sgK l.signs id).length ≤ _
      omega
    · simp
  · simp
theorem impl_SignsOf (l : TLedger) (id : Int) (h : nLedger l ≤ 1048576) : NCalls Try.prog 23 [ledgerE.val l, .int .i64 id] (intsResultE.val (signsOfF l id)) := by
  have h1 := nLedger_texts h
  have h2 := nLedger_signs h
  unfold signsOfF
  cases hf : (ledgerFault l == 0) <;> simp only [Bool.false_eq_true, if_true, if_false]
  · refine NCalls.of ?_; refine ACalls.enter (n := 40) (rs := [.cell 4 61]) Try.func23 rfl rfl rfl (by kernel_rfl) (by kernel_rfl) (by kernel_rfl) (Nat.le_of_ble_eq_true rfl) ?_
    repeat' (first | (refine ACalls.start ?_; first | (refine ACalls.ofJi (impl_LedgerFault l h1 h2) rfl ?_)) | (refine qcall_start ?_; first | (refine qcallFi (impl_LedgerFault l h1 h2) rfl ?_ ?_; (focus ((first | exact rfl | (simp [pureV, flatV, signE_val, signE_sz, ledgerE_val, ledgerE_sz, intsResultE_val]; done)))))) | (refine KV.run _ ?_) | (refine KQ.run _ ?_) | (refine KT.run _ ?_) | (refine AWp.seqH fun KC => ?_) | (refine AWp.block ?_) | (refine AWp.region ?_) | (refine mops_step0 rfl rfl fun KC => ?_) | (refine mops_step1 rfl fun KC => ?_) | (refine mops_step2 rfl fun KC => ?_) | (refine AWp.ret ?_) | (refine AWp.skip ?_) | (refine AWp.exit ?_) | (refine aops_callH rfl fun kC => ?_) | (refine qops_callH rfl fun kC => ?_) | (refine AWp.condB ?_) | (simp only [bse, wk, tys, storeH_ptr, Nat.reduceEqDiff, ↓reduceIte, reduceCtorEq, Nat.reduceAdd, Nat.reduceLeDiff, Int.reduceBEq, Int.reduceLT, Int.reduceLE, Int.reduceEq, ne_eq, not_false_eq_true, Nat.reduceMul, signE_val, signE_sz, ledgerE_val, ledgerE_sz, intsResultE_val, *]) | (refine condK_bool (fun hb => ?_) (fun hb => ?_) <;> ((try simp only [Bool.not_eq_true', Bool.not_eq_false'] at hb) <;> (try (have hbe := of_decide_eq_true hb)) <;> (try (have hbe := eq_of_beq hb)))) | (refine aops_partB ?_) | (refine qops_partB ?_))
    exact ⟨[], by simp, OwnL.aggL (.flat rfl (.nils .nil))⟩
  · cases hc : inB id 1 l.texts.length <;> simp only [Bool.false_eq_true, if_true, if_false]
    · refine NCalls.of ?_; refine ACalls.enter (n := 40) (rs := [.cell 4 61]) Try.func23 rfl rfl rfl (by kernel_rfl) (by kernel_rfl) (by kernel_rfl) (Nat.le_of_ble_eq_true rfl) ?_
      repeat' (first | (refine ACalls.start ?_; first | (refine ACalls.ofJi (impl_LedgerFault l h1 h2) rfl ?_) | (refine ACalls.ofJi (impl_isInL l _) rfl ?_)) | (refine qcall_start ?_; first | (refine qcallFi (impl_LedgerFault l h1 h2) rfl ?_ ?_; (focus ((first | exact rfl | (simp [pureV, flatV, signE_val, signE_sz, ledgerE_val, ledgerE_sz, intsResultE_val]; done))))) | (refine qcallFi (impl_isInL l _) rfl ?_ ?_; (focus ((first | exact rfl | (simp [pureV, flatV, signE_val, signE_sz, ledgerE_val, ledgerE_sz, intsResultE_val]; done)))))) | (refine KV.run _ ?_) | (refine KQ.run _ ?_) | (refine KT.run _ ?_) | (refine AWp.seqH fun KC => ?_) | (refine AWp.block ?_) | (refine AWp.region ?_) | (refine mops_step0 rfl rfl fun KC => ?_) | (refine mops_step1 rfl fun KC => ?_) | (refine mops_step2 rfl fun KC => ?_) | (refine AWp.ret ?_) | (refine AWp.skip ?_) | (refine AWp.exit ?_) | (refine aops_callH rfl fun kC => ?_) | (refine qops_callH rfl fun kC => ?_) | (refine AWp.condB ?_) | (simp only [bse, wk, tys, storeH_ptr, Nat.reduceEqDiff, ↓reduceIte, reduceCtorEq, Nat.reduceAdd, Nat.reduceLeDiff, Int.reduceBEq, Int.reduceLT, Int.reduceLE, Int.reduceEq, ne_eq, not_false_eq_true, Nat.reduceMul, signE_val, signE_sz, ledgerE_val, ledgerE_sz, intsResultE_val, *]) | (refine condK_bool (fun hb => ?_) (fun hb => ?_) <;> ((try simp only [Bool.not_eq_true', Bool.not_eq_false'] at hb) <;> (try (have hbe := of_decide_eq_true hb)) <;> (try (have hbe := eq_of_beq hb)))) | (refine aops_partB ?_) | (refine qops_partB ?_))
      exact ⟨[], by simp, OwnL.aggL (.flat rfl (.nils .nil))⟩
    · refine NCalls.of ?_; refine ACalls.enter (n := 40) (rs := [.cell 4 61]) Try.func23 rfl rfl rfl (by kernel_rfl) (by kernel_rfl) (by kernel_rfl) (Nat.le_of_ble_eq_true rfl) ?_
      repeat' (first | (refine ACalls.start ?_; first | (refine ACalls.ofJi (impl_LedgerFault l h1 h2) rfl ?_) | (refine ACalls.ofJi (impl_isInL l _) rfl ?_)) | (refine qcall_start ?_; first | (refine qcallFi (impl_LedgerFault l h1 h2) rfl ?_ ?_; (focus ((first | exact rfl | (simp [pureV, flatV, signE_val, signE_sz, ledgerE_val, ledgerE_sz, intsResultE_val]; done))))) | (refine qcallFi (impl_isInL l _) rfl ?_ ?_; (focus ((first | exact rfl | (simp [pureV, flatV, signE_val, signE_sz, ledgerE_val, ledgerE_sz, intsResultE_val]; done)))))) | (refine KV.run _ ?_) | (refine KQ.run _ ?_) | (refine KT.run _ ?_) | (refine AWp.seqH fun KC => ?_) | (refine AWp.block ?_) | (refine AWp.region ?_) | (refine mops_step0 rfl rfl fun KC => ?_) | (refine mops_step1 rfl fun KC => ?_) | (refine mops_step2 rfl fun KC => ?_) | (refine AWp.ret ?_) | (refine AWp.skip ?_) | (refine AWp.exit ?_) | (refine aops_callH rfl fun kC => ?_) | (refine qops_callH rfl fun kC => ?_) | (refine AWp.condB ?_) | (simp only [bse, wk, tys, storeH_ptr, Nat.reduceEqDiff, ↓reduceIte, reduceCtorEq, Nat.reduceAdd, Nat.reduceLeDiff, Int.reduceBEq, Int.reduceLT, Int.reduceLE, Int.reduceEq, ne_eq, not_false_eq_true, Nat.reduceMul, signE_val, signE_sz, ledgerE_val, ledgerE_sz, intsResultE_val, *]) | (refine condK_bool (fun hb => ?_) (fun hb => ?_) <;> ((try simp only [Bool.not_eq_true', Bool.not_eq_false'] at hb) <;> (try (have hbe := of_decide_eq_true hb)) <;> (try (have hbe := eq_of_beq hb)))) | (refine aops_partB ?_) | (refine qops_partB ?_))
      refine AWp.loopH [25, 26, 27, 8, 28, 29, 30, 31, 32, 33, 34, 35, 36, 6, 37, 24] (fun m e' H' => ∃ (k ver : Nat) (ys : List Int) (G : AH), k ≤ l.signs.length ∧ m = l.signs.length - k ∧ e' 24 = .int .i64 k ∧ e' 6 = .slice (some ⟨2, 0, none⟩) ys.length ver ∧ H' = ⟨41, 0, [islE strE l.texts, islE signE l.signs], 0, true⟩ :: ⟨61, 0, [.int .i64 0, .slice none 0 0], 0, true⟩ :: ⟨2, 1, intE.flat ys, ver, true⟩ :: G ∧ Hid (ys = sgK (l.signs.take k) id)) l.signs.length ⟨0, 0, [], [], by omega, by omega, rfl, rfl, rfl, rfl⟩ ?_
      rintro m e' H' hA ⟨k, ver, ys, G, hk, rfl, hix, h6, rfl, hF⟩ hJ
      have a1 := hA 1 rfl; have a4 := hA 4 rfl; have a22 := hA 22 rfl; have a23 := hA 23 rfl; try simp only [bse, wk, tys, storeH_ptr, Nat.reduceEqDiff, ↓reduceIte, reduceCtorEq, Nat.reduceAdd, Nat.reduceLeDiff, Int.reduceBEq, Int.reduceLT, Int.reduceLE, Int.reduceEq, ne_eq, not_false_eq_true, Nat.reduceMul] at a1 a4 a22 a23; clear hA
      by_cases hlt : k < l.signs.length
      · have hlt' : (k : Int) < (l.signs.length : Int) := by omega
        have hw := wr_succ (k := k) (by omega)
        have hyl : ys.length ≤ 1048576 := by have := hF.out; have h4 := sgK_le (l.signs.take k) id; rw [← this, List.length_take] at h4; omega
        have hap := fun s : Blk => appendH_sb (P := Try.prog) (B := 0) (H := ⟨41, 0, [islE strE l.texts, islE signE l.signs], 0, true⟩ :: ⟨61, 0, [.int .i64 0, .slice none 0 0], 0, true⟩ :: ⟨2, 1, intE.flat ys, ver, true⟩ :: (G ++ [s, ⟨2, 1, [.int .i64 l.signs[k].key], 0, true⟩])) (E := intE) (xs := ys) (ys := [l.signs[k].key]) (r := 2) (x := .slice (some ⟨G.length + 4, 0, none⟩) 1 0) (tx := 59) elZ59 zOk59 rfl (Nat.zero_le _)
          (srcV_own elZ59 (by rw [List.getElem?_cons_succ, List.getElem?_cons_succ, List.getElem?_cons_succ, List.getElem?_append_right (by omega), show G.length + 1 - G.length = 1 by omega]; rfl) rfl rfl rfl (Nat.le_refl _)) (by simp; omega) (by simp; omega)
        simp only [sb_eq, intE_sz, List.length_cons, List.length_nil, Nat.zero_add, List.length_append, Bool.true_or] at hap
        cases hb0 : (l.signs[k].id == id) with
        | true =>
          have hs : Hid (ys ++ [l.signs[k].key] = sgK (l.signs.take (k + 1)) id) := by unfold Hid; rw [sgK_step l.signs id k hlt, hb0, if_pos rfl, hF.out]
          repeat' (first | (refine KV.run _ ?_) | (refine KQ.run _ ?_) | (refine KT.run _ ?_) | (refine AWp.seqH fun KC => ?_) | (refine AWp.block ?_) | (refine AWp.region ?_) | (refine mops_step0 rfl rfl fun KC => ?_) | (refine mops_step1 rfl fun KC => ?_) | (refine mops_step2 rfl fun KC => ?_) | (refine AWp.ret ?_) | (refine AWp.skip ?_) | (refine AWp.exit ?_) | (refine aops_callH rfl fun kC => ?_) | (refine qops_callH rfl fun kC => ?_) | (refine AWp.condB ?_) | (simp only [bse, wk, tys, storeH_ptr, Nat.reduceEqDiff, ↓reduceIte, reduceCtorEq, Nat.reduceAdd, Nat.reduceLeDiff, Int.reduceBEq, Int.reduceLT, Int.reduceLE, Int.reduceEq, ne_eq, not_false_eq_true, Nat.reduceMul, signE_val, signE_sz, ledgerE_val, ledgerE_sz, intsResultE_val, *]) | (refine condK_bool (fun hb => ?_) (fun hb => ?_) <;> ((try simp only [Bool.not_eq_true', Bool.not_eq_false'] at hb) <;> (try (have hbe := of_decide_eq_true hb)) <;> (try (have hbe := eq_of_beq hb)))) | (refine aops_partB ?_) | (refine qops_partB ?_))
          refine hJ.out _ _ ⟨l.signs.length - (k + 1), by omega, k + 1, ver + 1, ys ++ [l.signs[k].key], _, by omega, rfl, rfl, ?_, rfl, hs⟩ (by repeat (first | exact Agree.refl _ _ | assumption | refine Agree.put ?_ rfl _))
          simp [put]
        | false =>
          have hs : Hid (ys = sgK (l.signs.take (k + 1)) id) := by unfold Hid; rw [sgK_step l.signs id k hlt, hb0, if_neg Bool.false_ne_true, hF.out]
          repeat' (first | (refine KV.run _ ?_) | (refine KQ.run _ ?_) | (refine KT.run _ ?_) | (refine AWp.seqH fun KC => ?_) | (refine AWp.block ?_) | (refine AWp.region ?_) | (refine mops_step0 rfl rfl fun KC => ?_) | (refine mops_step1 rfl fun KC => ?_) | (refine mops_step2 rfl fun KC => ?_) | (refine AWp.ret ?_) | (refine AWp.skip ?_) | (refine AWp.exit ?_) | (refine aops_callH rfl fun kC => ?_) | (refine qops_callH rfl fun kC => ?_) | (refine AWp.condB ?_) | (simp only [bse, wk, tys, storeH_ptr, Nat.reduceEqDiff, ↓reduceIte, reduceCtorEq, Nat.reduceAdd, Nat.reduceLeDiff, Int.reduceBEq, Int.reduceLT, Int.reduceLE, Int.reduceEq, ne_eq, not_false_eq_true, Nat.reduceMul, signE_val, signE_sz, ledgerE_val, ledgerE_sz, intsResultE_val, *]) | (refine condK_bool (fun hb => ?_) (fun hb => ?_) <;> ((try simp only [Bool.not_eq_true', Bool.not_eq_false'] at hb) <;> (try (have hbe := of_decide_eq_true hb)) <;> (try (have hbe := eq_of_beq hb)))) | (refine aops_partB ?_) | (refine qops_partB ?_))
          exact hJ.out _ _ ⟨l.signs.length - (k + 1), by omega, k + 1, ver, ys, _, by omega, rfl, rfl, by simp [put, *], rfl, hs⟩ (by repeat (first | exact Agree.refl _ _ | assumption | refine Agree.put ?_ rfl _))
      · have hlt' : ¬ (k : Int) < (l.signs.length : Int) := by omega
        have hke : k = l.signs.length := by omega
        subst hke
        rw [List.take_length] at hF
        repeat' (first | (refine KV.run _ ?_) | (refine KQ.run _ ?_) | (refine KT.run _ ?_) | (refine AWp.seqH fun KC => ?_) | (refine AWp.block ?_) | (refine AWp.region ?_) | (refine mops_step0 rfl rfl fun KC => ?_) | (refine mops_step1 rfl fun KC => ?_) | (refine mops_step2 rfl fun KC => ?_) | (refine AWp.ret ?_) | (refine AWp.skip ?_) | (refine AWp.exit ?_) | (refine aops_callH rfl fun kC => ?_) | (refine qops_callH rfl fun kC => ?_) | (refine AWp.condB ?_) | (simp only [bse, wk, tys, storeH_ptr, Nat.reduceEqDiff, ↓reduceIte, reduceCtorEq, Nat.reduceAdd, Nat.reduceLeDiff, Int.reduceBEq, Int.reduceLT, Int.reduceLE, Int.reduceEq, ne_eq, not_false_eq_true, Nat.reduceMul, signE_val, signE_sz, ledgerE_val, ledgerE_sz, intsResultE_val, *]) | (refine condK_bool (fun hb => ?_) (fun hb => ?_) <;> ((try simp only [Bool.not_eq_true', Bool.not_eq_false'] at hb) <;> (try (have hbe := of_decide_eq_true hb)) <;> (try (have hbe := eq_of_beq hb)))) | (refine aops_partB ?_) | (refine qops_partB ?_))
        rw [← hF.out]
        exact ⟨[2], by simp, OwnL.aggL (.flat rfl (OwnL.append (OwnL.sbO (el := 2) (o := true) rfl (fun _ => rfl) (by simp) (intE_flat _)) .nil))⟩
end Go.BM
