/- NoteText and IdOf: the implementation; what FnLedgers asks. -/
import Derived.Test.YtolecdkkecnkkaaT44
import Derived.Test.YtolecdkkecnkkaaT70
set_option linter.unusedVariables false
set_option linter.unusedSimpArgs false
set_option maxRecDepth 100000
set_option maxHeartbeats 4000000
namespace Go.BM
open Go.Proofs Go.RowKit
attribute [local irreducible] ACalls AWp aops qops optK optP cK gateA condK mops qcallK PCalls loadV fldV idxV lenV slV storeH binS
theorem atS_swap (xs : List ByteArray) (w : ByteArray) : findI (fun x => w == x) xs = findI (fun x => x == w) xs := by
  congr 1
  funext x
  exact Bool.beq_comm
theorem impl_idOf (l : TLedger) (w : ByteArray) (h1 : l.texts.length ≤ 1048576) : PCalls Try.prog 42 [ledgerE.val l, .string w] (.int .i64 (atS l.texts w)) := by
  have hi := lib_Index_str l.texts w (by omega)
  rw [atS_swap] at hi
  have hg := findI_ge (fun x => x == w) l.texts
  have hl := findI_lt (fun x => x == w) l.texts
  have hb : findI (fun x => x == w) l.texts ≤ 1048576 := by
    rcases hl with h | h
    · omega
    · rw [h]; simp [findI]
  unfold atS
  generalize findI (fun x => x == w) l.texts = q at *
  have hw : IntKind.i64.wrap (q + 1) = q + 1 := by rw [wr] <;> omega
  clear hl
  refine PCalls.flat rfl ?_; refine ACalls.enter (n := 10) (rs := [.tmp 4]) Try.func42 rfl rfl rfl (by kernel_rfl) (by kernel_rfl) (by kernel_rfl) (Nat.le_of_ble_eq_true rfl) ?_
  repeat' (first | (refine ACalls.start ?_; first | (refine ACalls.ofJi (hi) rfl ?_)) | (refine qcall_start ?_; first | (refine qcallFi (hi) rfl ?_ ?_; (focus ((first | exact rfl | (simp [pureV, flatV, signE_val, signE_sz, strE_sz, ledgerE_val, ledgerE_sz, ledgerResultE_val, sb_eq]; done)))))) | (refine KV.run _ ?_) | (refine KQ.run _ ?_) | (refine KT.run _ ?_) | (refine AWp.seqH fun KC => ?_) | (refine AWp.block ?_) | (refine AWp.region ?_) | (refine mops_step0 rfl rfl fun KC => ?_) | (refine mops_step1 rfl fun KC => ?_) | (refine mops_step2 rfl fun KC => ?_) | (refine AWp.ret ?_) | (refine AWp.skip ?_) | (refine AWp.exit ?_) | (refine aops_callH rfl fun kC => ?_) | (refine qops_callH rfl fun kC => ?_) | (refine AWp.condB ?_) | (simp only [bse, wk, tys, storeH_ptr, Nat.reduceEqDiff, ↓reduceIte, reduceCtorEq, Nat.reduceAdd, Nat.reduceLeDiff, Int.reduceBEq, Int.reduceLT, Int.reduceLE, Int.reduceEq, ne_eq, not_false_eq_true, Nat.reduceMul, signE_val, signE_sz, strE_sz, ledgerE_val, ledgerE_sz, ledgerResultE_val, sb_eq, *]) | (refine condK_bool (fun hb => ?_) (fun hb => ?_) <;> ((try simp only [Bool.not_eq_true', Bool.not_eq_false'] at hb) <;> (try (have hbe := of_decide_eq_true hb)) <;> (try (have hbe := eq_of_beq hb)))) | (refine aops_partB ?_) | (refine qops_partB ?_))
theorem impl_NoteText (l : TLedger) (w : ByteArray) (h : nLedger l ≤ 1048576) : NCalls Try.prog 13 [ledgerE.val l, .string w] (ledgerResultE.val (noteF l w)) := by
  have h1 := nLedger_texts h
  have h2 := nLedger_signs h
  unfold noteF
  cases hf : (ledgerFault l == 0) with
  | false =>
    simp only [Bool.false_eq_true, if_false]
    refine NCalls.of ?_; refine ACalls.enter (n := 47) (rs := [.cell 4 45]) Try.func13 rfl rfl rfl (by kernel_rfl) (by kernel_rfl) (by kernel_rfl) (Nat.le_of_ble_eq_true rfl) ?_
    repeat' (first | (refine ACalls.start ?_; first | (refine ACalls.ofJi (impl_LedgerFault l h1 h2) rfl ?_)) | (refine qcall_start ?_; first | (refine qcallFi (impl_LedgerFault l h1 h2) rfl ?_ ?_; (focus ((first | exact rfl | (simp [pureV, flatV, signE_val, signE_sz, strE_sz, ledgerE_val, ledgerE_sz, ledgerResultE_val, sb_eq]; done)))))) | (refine KV.run _ ?_) | (refine KQ.run _ ?_) | (refine KT.run _ ?_) | (refine AWp.seqH fun KC => ?_) | (refine AWp.block ?_) | (refine AWp.region ?_) | (refine mops_step0 rfl rfl fun KC => ?_) | (refine mops_step1 rfl fun KC => ?_) | (refine mops_step2 rfl fun KC => ?_) | (refine AWp.ret ?_) | (refine AWp.skip ?_) | (refine AWp.exit ?_) | (refine aops_callH rfl fun kC => ?_) | (refine qops_callH rfl fun kC => ?_) | (refine AWp.condB ?_) | (simp only [bse, wk, tys, storeH_ptr, Nat.reduceEqDiff, ↓reduceIte, reduceCtorEq, Nat.reduceAdd, Nat.reduceLeDiff, Int.reduceBEq, Int.reduceLT, Int.reduceLE, Int.reduceEq, ne_eq, not_false_eq_true, Nat.reduceMul, signE_val, signE_sz, strE_sz, ledgerE_val, ledgerE_sz, ledgerResultE_val, sb_eq, *]) | (refine condK_bool (fun hb => ?_) (fun hb => ?_) <;> ((try simp only [Bool.not_eq_true', Bool.not_eq_false'] at hb) <;> (try (have hbe := of_decide_eq_true hb)) <;> (try (have hbe := eq_of_beq hb)))) | (refine aops_partB ?_) | (refine qops_partB ?_))
    exact ⟨[], by simp, OwnL.aggL (.flat rfl (.flat rfl (.nils (.nils .nil))))⟩
  | true =>
    obtain ⟨ht60, _, _⟩ := ledgerFault_small (eq_of_beq hf)
    simp only [if_true]
    have hid := impl_idOf l w h1
    have htx := impl_isText w
    cases ht : textB w with
    | false =>
      rw [ht] at htx
      simp only [Bool.not_false, if_true]
      refine NCalls.of ?_; refine ACalls.enter (n := 47) (rs := [.cell 4 45]) Try.func13 rfl rfl rfl (by kernel_rfl) (by kernel_rfl) (by kernel_rfl) (Nat.le_of_ble_eq_true rfl) ?_
      repeat' (first | (refine ACalls.start ?_; first | (refine ACalls.ofJi (impl_LedgerFault l h1 h2) rfl ?_) | (refine ACalls.ofJi (hid) rfl ?_) | (refine ACalls.get (impl_ownLedger_own _ _ l h1 h2) (by first | exact Nat.le_refl _ | exact Nat.zero_le _ | (simp only [List.length_append, List.length_cons, List.length_nil]; omega) | (simp only [List.length_set]; omega) | omega) (by first | exact Nat.le_refl _ | exact Nat.zero_le _ | (simp only [List.length_append, List.length_cons, List.length_nil]; omega) | (simp only [List.length_set]; omega) | omega) ?_; rintro _ _ ⟨v1, o1, v2, o2, c0, c1, ho1, ho2, rfl, rfl⟩) | (refine ACalls.ofJi (htx) rfl ?_)) | (refine qcall_start ?_; first | (refine qcallFi (impl_LedgerFault l h1 h2) rfl ?_ ?_; (focus ((first | exact rfl | (simp [pureV, flatV, signE_val, signE_sz, strE_sz, ledgerE_val, ledgerE_sz, ledgerResultE_val, sb_eq]; done))))) | (refine qcallFi (hid) rfl ?_ ?_; (focus ((first | exact rfl | (simp [pureV, flatV, signE_val, signE_sz, strE_sz, ledgerE_val, ledgerE_sz, ledgerResultE_val, sb_eq]; done))))) | (refine qcallFi (htx) rfl ?_ ?_; (focus ((first | exact rfl | (simp [pureV, flatV, signE_val, signE_sz, strE_sz, ledgerE_val, ledgerE_sz, ledgerResultE_val, sb_eq]; done)))))) | (refine KV.run _ ?_) | (refine KQ.run _ ?_) | (refine KT.run _ ?_) | (refine AWp.seqH fun KC => ?_) | (refine AWp.block ?_) | (refine AWp.region ?_) | (refine mops_step0 rfl rfl fun KC => ?_) | (refine mops_step1 rfl fun KC => ?_) | (refine mops_step2 rfl fun KC => ?_) | (refine AWp.ret ?_) | (refine AWp.skip ?_) | (refine AWp.exit ?_) | (refine aops_callH rfl fun kC => ?_) | (refine qops_callH rfl fun kC => ?_) | (refine AWp.condB ?_) | (simp only [bse, wk, tys, storeH_ptr, Nat.reduceEqDiff, ↓reduceIte, reduceCtorEq, Nat.reduceAdd, Nat.reduceLeDiff, Int.reduceBEq, Int.reduceLT, Int.reduceLE, Int.reduceEq, ne_eq, not_false_eq_true, Nat.reduceMul, signE_val, signE_sz, strE_sz, ledgerE_val, ledgerE_sz, ledgerResultE_val, sb_eq, *]) | (refine condK_bool (fun hb => ?_) (fun hb => ?_) <;> ((try simp only [Bool.not_eq_true', Bool.not_eq_false'] at hb) <;> (try (have hbe := of_decide_eq_true hb)) <;> (try (have hbe := eq_of_beq hb)))) | (refine aops_partB ?_) | (refine qops_partB ?_))
      exact ⟨[], by simp, OwnL.aggL (.flat rfl (.flat rfl (.nils (.nils .nil))))⟩
    | true =>
      rw [ht] at htx
      simp only [Bool.not_true, Bool.false_eq_true, if_false]
      by_cases hp : 0 < atS l.texts w
      · simp only [hp, decide_true, if_true]
        generalize atS l.texts w = q at hp hid ⊢
        refine NCalls.of ?_; refine ACalls.enter (n := 47) (rs := [.cell 4 45]) Try.func13 rfl rfl rfl (by kernel_rfl) (by kernel_rfl) (by kernel_rfl) (Nat.le_of_ble_eq_true rfl) ?_
        repeat' (first | (refine ACalls.start ?_; first | (refine ACalls.ofJi (impl_LedgerFault l h1 h2) rfl ?_) | (refine ACalls.ofJi (hid) rfl ?_) | (refine ACalls.get (impl_ownLedger_own _ _ l h1 h2) (by first | exact Nat.le_refl _ | exact Nat.zero_le _ | (simp only [List.length_append, List.length_cons, List.length_nil]; omega) | (simp only [List.length_set]; omega) | omega) (by first | exact Nat.le_refl _ | exact Nat.zero_le _ | (simp only [List.length_append, List.length_cons, List.length_nil]; omega) | (simp only [List.length_set]; omega) | omega) ?_; rintro _ _ ⟨v1, o1, v2, o2, c0, c1, ho1, ho2, rfl, rfl⟩) | (refine ACalls.ofJi (htx) rfl ?_)) | (refine qcall_start ?_; first | (refine qcallFi (impl_LedgerFault l h1 h2) rfl ?_ ?_; (focus ((first | exact rfl | (simp [pureV, flatV, signE_val, signE_sz, strE_sz, ledgerE_val, ledgerE_sz, ledgerResultE_val, sb_eq]; done))))) | (refine qcallFi (hid) rfl ?_ ?_; (focus ((first | exact rfl | (simp [pureV, flatV, signE_val, signE_sz, strE_sz, ledgerE_val, ledgerE_sz, ledgerResultE_val, sb_eq]; done))))) | (refine qcallFi (htx) rfl ?_ ?_; (focus ((first | exact rfl | (simp [pureV, flatV, signE_val, signE_sz, strE_sz, ledgerE_val, ledgerE_sz, ledgerResultE_val, sb_eq]; done)))))) | (refine KV.run _ ?_) | (refine KQ.run _ ?_) | (refine KT.run _ ?_) | (refine AWp.seqH fun KC => ?_) | (refine AWp.block ?_) | (refine AWp.region ?_) | (refine mops_step0 rfl rfl fun KC => ?_) | (refine mops_step1 rfl fun KC => ?_) | (refine mops_step2 rfl fun KC => ?_) | (refine AWp.ret ?_) | (refine AWp.skip ?_) | (refine AWp.exit ?_) | (refine aops_callH rfl fun kC => ?_) | (refine qops_callH rfl fun kC => ?_) | (refine AWp.condB ?_) | (simp only [bse, wk, tys, storeH_ptr, Nat.reduceEqDiff, ↓reduceIte, reduceCtorEq, Nat.reduceAdd, Nat.reduceLeDiff, Int.reduceBEq, Int.reduceLT, Int.reduceLE, Int.reduceEq, ne_eq, not_false_eq_true, Nat.reduceMul, signE_val, signE_sz, strE_sz, ledgerE_val, ledgerE_sz, ledgerResultE_val, sb_eq, *]) | (refine condK_bool (fun hb => ?_) (fun hb => ?_) <;> ((try simp only [Bool.not_eq_true', Bool.not_eq_false'] at hb) <;> (try (have hbe := of_decide_eq_true hb)) <;> (try (have hbe := eq_of_beq hb)))) | (refine aops_partB ?_) | (refine qops_partB ?_))
        exact ⟨[4, 5], by simp, OwnL.aggL (.flat rfl (.flat rfl (OwnL.append (OwnL.sbO rfl ho1 rfl (strE_flat _)) (OwnL.append (OwnL.sbO rfl ho2 rfl (signE_flat _)) .nil))))⟩
      · simp only [hp, decide_false, Bool.false_eq_true, if_false]
        generalize atS l.texts w = q at hp hid
        by_cases h6 : 60 ≤ l.texts.length
        · have e6 : ((l.texts.length : Int) == 60) = true := by simp; omega
          simp only [h6, decide_true, if_true]
          refine NCalls.of ?_; refine ACalls.enter (n := 47) (rs := [.cell 4 45]) Try.func13 rfl rfl rfl (by kernel_rfl) (by kernel_rfl) (by kernel_rfl) (Nat.le_of_ble_eq_true rfl) ?_
          repeat' (first | (refine ACalls.start ?_; first | (refine ACalls.ofJi (impl_LedgerFault l h1 h2) rfl ?_) | (refine ACalls.ofJi (hid) rfl ?_) | (refine ACalls.get (impl_ownLedger_own _ _ l h1 h2) (by first | exact Nat.le_refl _ | exact Nat.zero_le _ | (simp only [List.length_append, List.length_cons, List.length_nil]; omega) | (simp only [List.length_set]; omega) | omega) (by first | exact Nat.le_refl _ | exact Nat.zero_le _ | (simp only [List.length_append, List.length_cons, List.length_nil]; omega) | (simp only [List.length_set]; omega) | omega) ?_; rintro _ _ ⟨v1, o1, v2, o2, c0, c1, ho1, ho2, rfl, rfl⟩) | (refine ACalls.ofJi (htx) rfl ?_)) | (refine qcall_start ?_; first | (refine qcallFi (impl_LedgerFault l h1 h2) rfl ?_ ?_; (focus ((first | exact rfl | (simp [pureV, flatV, signE_val, signE_sz, strE_sz, ledgerE_val, ledgerE_sz, ledgerResultE_val, sb_eq]; done))))) | (refine qcallFi (hid) rfl ?_ ?_; (focus ((first | exact rfl | (simp [pureV, flatV, signE_val, signE_sz, strE_sz, ledgerE_val, ledgerE_sz, ledgerResultE_val, sb_eq]; done))))) | (refine qcallFi (htx) rfl ?_ ?_; (focus ((first | exact rfl | (simp [pureV, flatV, signE_val, signE_sz, strE_sz, ledgerE_val, ledgerE_sz, ledgerResultE_val, sb_eq]; done)))))) | (refine KV.run _ ?_) | (refine KQ.run _ ?_) | (refine KT.run _ ?_) | (refine AWp.seqH fun KC => ?_) | (refine AWp.block ?_) | (refine AWp.region ?_) | (refine mops_step0 rfl rfl fun KC => ?_) | (refine mops_step1 rfl fun KC => ?_) | (refine mops_step2 rfl fun KC => ?_) | (refine AWp.ret ?_) | (refine AWp.skip ?_) | (refine AWp.exit ?_) | (refine aops_callH rfl fun kC => ?_) | (refine qops_callH rfl fun kC => ?_) | (refine AWp.condB ?_) | (simp only [bse, wk, tys, storeH_ptr, Nat.reduceEqDiff, ↓reduceIte, reduceCtorEq, Nat.reduceAdd, Nat.reduceLeDiff, Int.reduceBEq, Int.reduceLT, Int.reduceLE, Int.reduceEq, ne_eq, not_false_eq_true, Nat.reduceMul, signE_val, signE_sz, strE_sz, ledgerE_val, ledgerE_sz, ledgerResultE_val, sb_eq, *]) | (refine condK_bool (fun hb => ?_) (fun hb => ?_) <;> ((try simp only [Bool.not_eq_true', Bool.not_eq_false'] at hb) <;> (try (have hbe := of_decide_eq_true hb)) <;> (try (have hbe := eq_of_beq hb)))) | (refine aops_partB ?_) | (refine qops_partB ?_))
          exact ⟨[], by simp, OwnL.aggL (.flat rfl (.flat rfl (.nils (.nils .nil))))⟩
        · have e6 : ((l.texts.length : Int) == 60) = false := by simp; omega
          simp only [h6, decide_false, Bool.false_eq_true, if_false]
          have hap := fun (b0 b1 b2 b3 b5 b6 : Blk) (v1 : Nat) (o1 : Bool) => appendH_sb (P := Try.prog) (B := 0) (H := [b0, b1, b2, b3, sb 9 strE l.texts v1 o1, b5, b6, sb 9 strE [w] 0 true]) (E := strE) (xs := l.texts) (ys := [w]) (r := 4) (x := .slice (some ⟨7, 0, none⟩) 1 0) (t := 38) (tx := 38) (o := o1) (ver := v1) elZ38 zOk38 rfl (Nat.zero_le _)
            (srcV_own elZ38 rfl rfl rfl rfl (Nat.le_refl _)) (by simp; omega) (by simp; omega)
          simp only [sb_eq, strE_sz, strE.flat_one, strE_val, cells_str, List.length_cons, List.length_nil, Nat.zero_add, List.set_cons_succ, List.set_cons_zero, ne_eq, Nat.succ_ne_self, not_false_eq_true, decide_true, Bool.or_true, Nat.one_ne_zero] at hap
          refine NCalls.of ?_; refine ACalls.enter (n := 47) (rs := [.cell 4 45]) Try.func13 rfl rfl rfl (by kernel_rfl) (by kernel_rfl) (by kernel_rfl) (Nat.le_of_ble_eq_true rfl) ?_
          repeat' (first | (refine ACalls.start ?_; first | (refine ACalls.ofJi (impl_LedgerFault l h1 h2) rfl ?_) | (refine ACalls.ofJi (hid) rfl ?_) | (refine ACalls.get (impl_ownLedger_own _ _ l h1 h2) (by first | exact Nat.le_refl _ | exact Nat.zero_le _ | (simp only [List.length_append, List.length_cons, List.length_nil]; omega) | (simp only [List.length_set]; omega) | omega) (by first | exact Nat.le_refl _ | exact Nat.zero_le _ | (simp only [List.length_append, List.length_cons, List.length_nil]; omega) | (simp only [List.length_set]; omega) | omega) ?_; rintro _ _ ⟨v1, o1, v2, o2, c0, c1, ho1, ho2, rfl, rfl⟩) | (refine ACalls.ofJi (htx) rfl ?_)) | (refine qcall_start ?_; first | (refine qcallFi (impl_LedgerFault l h1 h2) rfl ?_ ?_; (focus ((first | exact rfl | (simp [pureV, flatV, signE_val, signE_sz, strE_sz, ledgerE_val, ledgerE_sz, ledgerResultE_val, sb_eq]; done))))) | (refine qcallFi (hid) rfl ?_ ?_; (focus ((first | exact rfl | (simp [pureV, flatV, signE_val, signE_sz, strE_sz, ledgerE_val, ledgerE_sz, ledgerResultE_val, sb_eq]; done))))) | (refine qcallFi (htx) rfl ?_ ?_; (focus ((first | exact rfl | (simp [pureV, flatV, signE_val, signE_sz, strE_sz, ledgerE_val, ledgerE_sz, ledgerResultE_val, sb_eq]; done)))))) | (refine KV.run _ ?_) | (refine KQ.run _ ?_) | (refine KT.run _ ?_) | (refine AWp.seqH fun KC => ?_) | (refine AWp.block ?_) | (refine AWp.region ?_) | (refine mops_step0 rfl rfl fun KC => ?_) | (refine mops_step1 rfl fun KC => ?_) | (refine mops_step2 rfl fun KC => ?_) | (refine AWp.ret ?_) | (refine AWp.skip ?_) | (refine AWp.exit ?_) | (refine aops_callH rfl fun kC => ?_) | (refine qops_callH rfl fun kC => ?_) | (refine AWp.condB ?_) | (simp only [bse, wk, tys, storeH_ptr, Nat.reduceEqDiff, ↓reduceIte, reduceCtorEq, Nat.reduceAdd, Nat.reduceLeDiff, Int.reduceBEq, Int.reduceLT, Int.reduceLE, Int.reduceEq, ne_eq, not_false_eq_true, Nat.reduceMul, signE_val, signE_sz, strE_sz, ledgerE_val, ledgerE_sz, ledgerResultE_val, sb_eq, *]) | (refine condK_bool (fun hb => ?_) (fun hb => ?_) <;> ((try simp only [Bool.not_eq_true', Bool.not_eq_false'] at hb) <;> (try (have hbe := of_decide_eq_true hb)) <;> (try (have hbe := eq_of_beq hb)))) | (refine aops_partB ?_) | (refine qops_partB ?_))
          exact ⟨[4, 5], by simp, OwnL.aggL (.flat (by simp [flatV]) (.flat rfl (OwnL.append (OwnL.slE (ys := l.texts ++ [w]) rfl (fun _ => rfl) (by simp) (strE_flat _)) (OwnL.append (OwnL.sbO rfl ho2 rfl (signE_flat _)) .nil))))⟩
def idOfF (l : TLedger) (w : ByteArray) : Int × Int := if ledgerFault l == 0 then (if atS l.texts w == 0 then (4, 0) else (0, atS l.texts w)) else (ledgerFault l, 0)
theorem impl_IdOf (l : TLedger) (w : ByteArray) (h1 : l.texts.length ≤ 1048576) (h2 : l.signs.length ≤ 1048576) : PCalls Try.prog 15 [ledgerE.val l, .string w] (.agg #[.int .i64 (idOfF l w).1, .int .i64 (idOfF l w).2]) := by
  unfold idOfF
  have hid := impl_idOf l w h1
  cases hf : (ledgerFault l == 0) with
  | false =>
    simp only [Bool.false_eq_true, if_false]
    refine PCalls.val (by first | exact islE_im _ _ | exact Enc.val_im _ _ | exact Im.flat _ rfl | (repeat' (first | exact Im.nilL | refine Im.consL ?_ ?_ | exact Im.flat _ rfl | exact islE_im _ _ | exact Enc.val_im _ _ | refine Im.aggL ?_ | refine Im.tupleL ?_ | refine Im.isl ?_))) ?_; refine ACalls.enter (n := 21) (rs := [.cell 4 48]) Try.func15 rfl rfl rfl (by kernel_rfl) (by kernel_rfl) (by kernel_rfl) (Nat.le_of_ble_eq_true rfl) ?_
    repeat' (first | (refine ACalls.start ?_; first | (refine ACalls.ofJi (impl_LedgerFault l h1 h2) rfl ?_)) | (refine qcall_start ?_; first | (refine qcallFi (impl_LedgerFault l h1 h2) rfl ?_ ?_; (focus ((first | exact rfl | (simp [pureV, flatV, signE_val, signE_sz, strE_sz, ledgerE_val, ledgerE_sz, ledgerResultE_val, sb_eq]; done)))))) | (refine KV.run _ ?_) | (refine KQ.run _ ?_) | (refine KT.run _ ?_) | (refine AWp.seqH fun KC => ?_) | (refine AWp.block ?_) | (refine AWp.region ?_) | (refine mops_step0 rfl rfl fun KC => ?_) | (refine mops_step1 rfl fun KC => ?_) | (refine mops_step2 rfl fun KC => ?_) | (refine AWp.ret ?_) | (refine AWp.skip ?_) | (refine AWp.exit ?_) | (refine aops_callH rfl fun kC => ?_) | (refine qops_callH rfl fun kC => ?_) | (refine AWp.condB ?_) | (simp only [bse, wk, tys, storeH_ptr, Nat.reduceEqDiff, ↓reduceIte, reduceCtorEq, Nat.reduceAdd, Nat.reduceLeDiff, Int.reduceBEq, Int.reduceLT, Int.reduceLE, Int.reduceEq, ne_eq, not_false_eq_true, Nat.reduceMul, signE_val, signE_sz, strE_sz, ledgerE_val, ledgerE_sz, ledgerResultE_val, sb_eq, *]) | (refine condK_bool (fun hb => ?_) (fun hb => ?_) <;> ((try simp only [Bool.not_eq_true', Bool.not_eq_false'] at hb) <;> (try (have hbe := of_decide_eq_true hb)) <;> (try (have hbe := eq_of_beq hb)))) | (refine aops_partB ?_) | (refine qops_partB ?_))
  | true =>
    generalize atS l.texts w = q at hid ⊢
    cases hq : (q == 0)
    · simp only [if_true, Bool.false_eq_true, if_false]
      refine PCalls.val (by first | exact islE_im _ _ | exact Enc.val_im _ _ | exact Im.flat _ rfl | (repeat' (first | exact Im.nilL | refine Im.consL ?_ ?_ | exact Im.flat _ rfl | exact islE_im _ _ | exact Enc.val_im _ _ | refine Im.aggL ?_ | refine Im.tupleL ?_ | refine Im.isl ?_))) ?_; refine ACalls.enter (n := 21) (rs := [.cell 4 48]) Try.func15 rfl rfl rfl (by kernel_rfl) (by kernel_rfl) (by kernel_rfl) (Nat.le_of_ble_eq_true rfl) ?_
      repeat' (first | (refine ACalls.start ?_; first | (refine ACalls.ofJi (impl_LedgerFault l h1 h2) rfl ?_) | (refine ACalls.ofJi (hid) rfl ?_)) | (refine qcall_start ?_; first | (refine qcallFi (impl_LedgerFault l h1 h2) rfl ?_ ?_; (focus ((first | exact rfl | (simp [pureV, flatV, signE_val, signE_sz, strE_sz, ledgerE_val, ledgerE_sz, ledgerResultE_val, sb_eq]; done))))) | (refine qcallFi (hid) rfl ?_ ?_; (focus ((first | exact rfl | (simp [pureV, flatV, signE_val, signE_sz, strE_sz, ledgerE_val, ledgerE_sz, ledgerResultE_val, sb_eq]; done)))))) | (refine KV.run _ ?_) | (refine KQ.run _ ?_) | (refine KT.run _ ?_) | (refine AWp.seqH fun KC => ?_) | (refine AWp.block ?_) | (refine AWp.region ?_) | (refine mops_step0 rfl rfl fun KC => ?_) | (refine mops_step1 rfl fun KC => ?_) | (refine mops_step2 rfl fun KC => ?_) | (refine AWp.ret ?_) | (refine AWp.skip ?_) | (refine AWp.exit ?_) | (refine aops_callH rfl fun kC => ?_) | (refine qops_callH rfl fun kC => ?_) | (refine AWp.condB ?_) | (simp only [bse, wk, tys, storeH_ptr, Nat.reduceEqDiff, ↓reduceIte, reduceCtorEq, Nat.reduceAdd, Nat.reduceLeDiff, Int.reduceBEq, Int.reduceLT, Int.reduceLE, Int.reduceEq, ne_eq, not_false_eq_true, Nat.reduceMul, signE_val, signE_sz, strE_sz, ledgerE_val, ledgerE_sz, ledgerResultE_val, sb_eq, *]) | (refine condK_bool (fun hb => ?_) (fun hb => ?_) <;> ((try simp only [Bool.not_eq_true', Bool.not_eq_false'] at hb) <;> (try (have hbe := of_decide_eq_true hb)) <;> (try (have hbe := eq_of_beq hb)))) | (refine aops_partB ?_) | (refine qops_partB ?_))
    · simp only [if_true]
      refine PCalls.val (by first | exact islE_im _ _ | exact Enc.val_im _ _ | exact Im.flat _ rfl | (repeat' (first | exact Im.nilL | refine Im.consL ?_ ?_ | exact Im.flat _ rfl | exact islE_im _ _ | exact Enc.val_im _ _ | refine Im.aggL ?_ | refine Im.tupleL ?_ | refine Im.isl ?_))) ?_; refine ACalls.enter (n := 21) (rs := [.cell 4 48]) Try.func15 rfl rfl rfl (by kernel_rfl) (by kernel_rfl) (by kernel_rfl) (Nat.le_of_ble_eq_true rfl) ?_
      repeat' (first | (refine ACalls.start ?_; first | (refine ACalls.ofJi (impl_LedgerFault l h1 h2) rfl ?_) | (refine ACalls.ofJi (hid) rfl ?_)) | (refine qcall_start ?_; first | (refine qcallFi (impl_LedgerFault l h1 h2) rfl ?_ ?_; (focus ((first | exact rfl | (simp [pureV, flatV, signE_val, signE_sz, strE_sz, ledgerE_val, ledgerE_sz, ledgerResultE_val, sb_eq]; done))))) | (refine qcallFi (hid) rfl ?_ ?_; (focus ((first | exact rfl | (simp [pureV, flatV, signE_val, signE_sz, strE_sz, ledgerE_val, ledgerE_sz, ledgerResultE_val, sb_eq]; done)))))) | (refine KV.run _ ?_) | (refine KQ.run _ ?_) | (refine KT.run _ ?_) | (refine AWp.seqH fun KC => ?_) | (refine AWp.block ?_) | (refine AWp.region ?_) | (refine mops_step0 rfl rfl fun KC => ?_) | (refine mops_step1 rfl fun KC => ?_) | (refine mops_step2 rfl fun KC => ?_) | (refine AWp.ret ?_) | (refine AWp.skip ?_) | (refine AWp.exit ?_) | (refine aops_callH rfl fun kC => ?_) | (refine qops_callH rfl fun kC => ?_) | (refine AWp.condB ?_) | (simp only [bse, wk, tys, storeH_ptr, Nat.reduceEqDiff, ↓reduceIte, reduceCtorEq, Nat.reduceAdd, Nat.reduceLeDiff, Int.reduceBEq, Int.reduceLT, Int.reduceLE, Int.reduceEq, ne_eq, not_false_eq_true, Nat.reduceMul, signE_val, signE_sz, strE_sz, ledgerE_val, ledgerE_sz, ledgerResultE_val, sb_eq, *]) | (refine condK_bool (fun hb => ?_) (fun hb => ?_) <;> ((try simp only [Bool.not_eq_true', Bool.not_eq_false'] at hb) <;> (try (have hbe := of_decide_eq_true hb)) <;> (try (have hbe := eq_of_beq hb)))) | (refine aops_partB ?_) | (refine qops_partB ?_))
theorem atS_at {xs : List ByteArray} {w : ByteArray} (h : 0 < atS xs w) : ∃ (k : Nat) (hk : k < xs.length), atS xs w = (k : Int) + 1 ∧ xs[k] = w := by
  unfold atS at h ⊢
  obtain ⟨k, hk, e, hp, _⟩ := findI_spec (fun x => x == w) xs (by omega)
  exact ⟨k, hk, by omega, by simpa using hp⟩
theorem atS_mem {xs : List ByteArray} {w : ByteArray} (h : w ∈ xs) : 0 < atS xs w := by
  have h2 := findI_any (fun x => x == w) xs
  have h3 : (xs.any fun x => x == w) = true := List.any_eq_true.2 ⟨w, h, by simp⟩
  rw [h3] at h2
  have h4 : 0 ≤ findI (fun x => x == w) xs := of_decide_eq_true h2
  unfold atS
  omega
theorem atS_app {xs : List ByteArray} {w : ByteArray} (h : ¬ 0 < atS xs w) : atS (xs ++ [w]) w = (xs.length : Int) + 1 := by
  have hn : ∀ j (hj : j < xs.length), (xs[j] == w) = false := fun j hj => by
    cases e : (xs[j] == w) with
    | false => rfl
    | true => exact absurd (atS_mem (by rw [← eq_of_beq e]; exact List.getElem_mem hj)) h
  unfold atS
  rw [findI_hit (fun x => x == w) (xs ++ [w]) xs.length (by simp) (fun j hj hjk => by rw [List.getElem_append_left hjk]; exact hn j hjk) (by simp)]
theorem txF_zero {pre : List ByteArray} {x : ByteArray} : txF pre x = 0 ↔ textB x = true ∧ (pre.any fun y => x == y) = false := by
  unfold txF
  cases h1 : textB x <;> cases h2 : (pre.any fun y => x == y) <;> simp
theorem inB_up {a : Int} {n : Nat} (h : inB a 1 n = true) : inB a 1 ((n + 1 : Nat) : Int) = true := by
  unfold inB at h ⊢
  simp at h ⊢
  omega
theorem note_ok {l : TLedger} {w : ByteArray} (h : (noteF l w).code = 0) : ∃ (l' : TLedger) (i : Int), noteF l w = ⟨0, i, l'⟩ ∧ noteF l' w = ⟨0, i, l'⟩ ∧ ledgerFault l' = 0 ∧ nLedger l' ≤ 31000 ∧ 0 < i ∧ i ≤ 100 ∧ textOfF l' i = ⟨0, w⟩ ∧ (idOfF l' w).2 = i ∧
    (∀ j (hj : j < l.texts.length), textOfF l' ((j : Int) + 1) = ⟨0, l.texts[j]⟩ ∧ ((idOfF l' l.texts[j]).2 == i) = (l.texts[j] == w)) := by
  cases hf : (ledgerFault l == 0) with
  | false =>
    unfold noteF at h
    simp [hf] at h
    exact absurd h (by simpa using hf)
  | true =>
    have hf0 := eq_of_beq hf
    obtain ⟨l1, l2, l3, l4⟩ := ledger_zero.1 hf0
    have hb := ledger_bound hf0
    cases ht : textB w
    · unfold noteF at h; simp [hf, ht] at h
    -- the common end: l' holds l's texts in front and w at i
    have fin : ∀ (l' : TLedger) (i : Int), ledgerFault l' = 0 → atS l'.texts w = i → 0 < i → (∀ j (hj : j < l.texts.length), ∃ hj' : j < l'.texts.length, l'.texts[j] = l.texts[j]) → textOfF l' i = ⟨0, w⟩ ∧ (idOfF l' w).2 = i ∧
        (∀ j (hj : j < l.texts.length), textOfF l' ((j : Int) + 1) = ⟨0, l.texts[j]⟩ ∧ ((idOfF l' l.texts[j]).2 == i) = (l.texts[j] == w)) := by
      intro l' i hz hi h0 hpre
      have hzb : (ledgerFault l' == 0) = true := by rw [hz]; rfl
      obtain ⟨k, hk, e1, e2⟩ := atS_at (xs := l'.texts) (w := w) (by omega)
      have tx : ∀ j (hj : j < l'.texts.length), textOfF l' ((j : Int) + 1) = ⟨0, l'.texts[j]⟩ := fun j hj => by
        have hin : inB ((j : Int) + 1) 1 l'.texts.length = true := by unfold inB; simp; omega
        unfold textOfF
        rw [hzb, hin, getS_at hj]
        rfl
      have id2 : ∀ x, 0 < atS l'.texts x → (idOfF l' x).2 = atS l'.texts x := fun x hx => by
        have : (atS l'.texts x == 0) = false := by simp; omega
        unfold idOfF
        simp [hzb, this]
      refine ⟨by rw [← hi, e1, tx k hk, e2], by rw [id2 w (by omega), hi], fun j hj => ?_⟩
      obtain ⟨hj', ej⟩ := hpre j hj
      refine ⟨by rw [tx j hj', ej], ?_⟩
      have hm : 0 < atS l'.texts l.texts[j] := atS_mem (by rw [← ej]; exact List.getElem_mem hj')
      rw [id2 _ hm]
      obtain ⟨k2, hk2, e3, e4⟩ := atS_at hm
      by_cases e : l.texts[j] = w
      · rw [e, hi]; simp
      · have hne : ¬ atS l'.texts l.texts[j] = i := fun hc => by
          have : k2 = k := by omega
          subst this
          exact e (e4.symm.trans e2)
        rw [beq_eq_false_iff_ne.2 hne, beq_eq_false_iff_ne.2 e]
    by_cases hp : 0 < atS l.texts w
    · have e : noteF l w = ⟨0, atS l.texts w, l⟩ := by unfold noteF; simp [hf, ht, hp]
      obtain ⟨k, hk, e1, _⟩ := atS_at hp
      obtain ⟨g1, g2, g3⟩ := fin l _ hf0 rfl hp fun j hj => ⟨hj, rfl⟩
      exact ⟨l, _, e, e, hf0, by omega, hp, by omega, g1, g2, g3⟩
    · by_cases h6 : 60 ≤ l.texts.length
      · unfold noteF at h; simp [hf, ht, hp, h6] at h
      have e : noteF l w = ⟨0, (l.texts.length : Int) + 1, ⟨l.texts ++ [w], l.signs⟩⟩ := by unfold noteF; simp [hf, ht, hp, h6]
      have hno : (l.texts.any fun y => w == y) = false := by
        cases hx : (l.texts.any fun y => w == y) with
        | false => rfl
        | true =>
          obtain ⟨y, hy, he⟩ := List.any_eq_true.1 hx
          exact absurd (atS_mem (by rw [eq_of_beq he]; exact hy)) hp
      have hf' : ledgerFault ⟨l.texts ++ [w], l.signs⟩ = 0 := ledger_zero.2 ⟨by simp; omega, l2, scanK_imp (fun pre x hx => by
          obtain ⟨a1, a2, a3⟩ := sgF_zero.1 hx
          refine sgF_zero.2 ⟨a1, ?_, a3⟩
          have := inB_up a2
          simpa using this) _ _ l3, scanK_app _ _ _ _ l4 (by
        rw [List.nil_append]
        exact txF_zero.2 ⟨ht, hno⟩)⟩
      have hi' : atS (l.texts ++ [w]) w = (l.texts.length : Int) + 1 := atS_app hp
      have hfb : (ledgerFault ⟨l.texts ++ [w], l.signs⟩ == 0) = true := by rw [hf']; rfl
      have hp' : 0 < atS (l.texts ++ [w]) w := by rw [hi']; omega
      obtain ⟨g1, g2, g3⟩ := fin ⟨l.texts ++ [w], l.signs⟩ ((l.texts.length : Int) + 1) hf' hi' (by omega) fun j hj => ⟨by simp; omega, by simp [List.getElem_append_left hj]⟩
      refine ⟨_, _, e, ?_, hf', ?_, by omega, by omega, g1, g2, g3⟩
      · unfold noteF
        simp only [hfb, ht, hi', if_true, Bool.not_true, Bool.false_eq_true, if_false]
        rw [if_pos (by first | (simp; done) | (simp; omega))]
      · have := (textB_le ht).2
        unfold nLedger at hb ⊢
        rw [nStrS_app]
        dsimp only
        omega
end Go.BM
