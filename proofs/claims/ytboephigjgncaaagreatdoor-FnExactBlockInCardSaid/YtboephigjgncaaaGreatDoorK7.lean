/- BlockIn: the program. -/
import Derived.Test.YtboephigjgncaaaGreatDoorK6
import Derived.Test.YtboephigjgncaaaGreatDoorT15
set_option linter.unusedVariables false
set_option linter.unusedSimpArgs false
set_option maxRecDepth 100000
set_option maxHeartbeats 4000000
namespace Go.BM
open Go.Proofs Go.RowKit
attribute [local irreducible] ACalls AWp aops qops optK optP cK gateA condK mops qcallK PCalls loadV fldV idxV lenV slV storeH binS
theorem own_tup0 {H : AH} (c : Int) : ∃ S : List Nat, S.Nodup ∧ OwnL false H [.tuple #[.agg #[.int .i64 0, .int .i64 0, .int .i64 0, .slice none 0 0], .int .i64 c]] [.tuple #[blockE.val blk0, .int .i64 c]] S :=
  ⟨[], by simp, OwnL.tupL (l := [.agg #[.int .i64 0, .int .i64 0, .int .i64 0, .slice none 0 0], .int .i64 c]) (l' := [blockE.val blk0, .int .i64 c]) (OwnL.consL (OwnL.aggL (l := [.int .i64 0, .int .i64 0, .int .i64 0, .slice none 0 0]) (l' := [.int .i64 0, .int .i64 0, .int .i64 0, islE intE []]) (.flat rfl (.flat rfl (.flat rfl (.nils .nil))))) (.flat rfl .nil))⟩
def blkIn (l : TLedger) (id : Int) : TBlock × Int :=
  if !inB id 1 l.texts.length then (blk0, 3) else if (readB (getS l.texts id).data.toList).2 then ((readB (getS l.texts id).data.toList).1, 0) else (blk0, 5)
def blockInF (l : TLedger) (id : Int) : TBlockResult := if !(ledgerFault l == 0) then ⟨ledgerFault l, blk0⟩ else ⟨(blkIn l id).2, (blkIn l id).1⟩
theorem impl_blockIn (l : TLedger) (id : Int) (h1 : l.texts.length ≤ 1048576) (hs : inB id 1 l.texts.length = true → (getS l.texts id).size ≤ 300) : NCalls Tryz.prog 26 [ledgerE.val l, .int .i64 id] (.tuple #[blockE.val (blkIn l id).1, .int .i64 (blkIn l id).2]) := by
  have ht := impl_textOf l id h1
  unfold blkIn
  cases hc : inB id 1 l.texts.length with
  | false =>
    simp only [hc, Bool.false_eq_true, if_false] at ht
    simp only [Bool.not_false, if_true]
    clear hs hc
    refine NCalls.of ?_; refine ACalls.enter (n := 29) (rs := [.cell 4 29, .tmp 5]) Tryz.func26 rfl rfl rfl (by kernel_rfl) (by kernel_rfl) (by kernel_rfl) (Nat.le_of_ble_eq_true rfl) ?_
    repeat' (first | (refine ACalls.start ?_; first | (refine ACalls.ofJi (ht) rfl ?_)) | (refine qcall_start ?_; first | (refine qcallFi (ht) rfl ?_ ?_; (focus ((first | exact rfl | (simp [pureV, flatV, blockE_val, blockE_sz, blockResultE_val, blockResultE_sz, ledgerE_val, ledgerE_sz]; done)))))) | (refine KV.run _ ?_) | (refine KQ.run _ ?_) | (refine KT.run _ ?_) | (refine AWp.seqH fun KC => ?_) | (refine AWp.block ?_) | (refine AWp.region ?_) | (refine mops_step0 rfl rfl fun KC => ?_) | (refine mops_step1 rfl fun KC => ?_) | (refine mops_step2 rfl fun KC => ?_) | (refine AWp.ret ?_) | (refine AWp.skip ?_) | (refine AWp.exit ?_) | (refine aops_callH rfl fun kC => ?_) | (refine qops_callH rfl fun kC => ?_) | (refine AWp.condB ?_) | (simp only [bse, wk, tys, storeH_ptr, Nat.reduceEqDiff, ↓reduceIte, reduceCtorEq, Nat.reduceAdd, Nat.reduceLeDiff, Int.reduceBEq, Int.reduceLT, Int.reduceLE, Int.reduceEq, ne_eq, not_false_eq_true, Nat.reduceMul, blockE_val, blockE_sz, blockResultE_val, blockResultE_sz, ledgerE_val, ledgerE_sz, *]) | (refine condK_bool (fun hb => ?_) (fun hb => ?_) <;> ((try simp only [Bool.not_eq_true', Bool.not_eq_false'] at hb) <;> (try (have hbe := of_decide_eq_true hb)) <;> (try (have hbe := eq_of_beq hb)))) | (refine aops_partB ?_) | (refine qops_partB ?_))
    exact own_tup0 3
  | true =>
    simp only [hc, if_true] at ht
    simp only [Bool.not_true, Bool.false_eq_true, if_false]
    have hs' := hs hc
    have hsz : (getS l.texts id).data.toList.length = (getS l.texts id).size := Array.length_toList
    have hrd := impl_readBlock (getS l.texts id).data.toList (by omega)
    clear hsz
    rw [bs_of] at hrd
    generalize readB (getS l.texts id).data.toList = R at hrd ⊢
    obtain ⟨⟨x1, x2, x3, zs⟩, ok⟩ := R
    dsimp only at hrd ⊢
    simp only [blockE_val] at hrd
    generalize getS l.texts id = T at ht hrd
    clear hs hs' hc
    cases ok with
    | false =>
      simp only [Bool.false_eq_true, if_false]
      refine NCalls.of ?_; refine ACalls.enter (n := 29) (rs := [.cell 4 29, .tmp 5]) Tryz.func26 rfl rfl rfl (by kernel_rfl) (by kernel_rfl) (by kernel_rfl) (Nat.le_of_ble_eq_true rfl) ?_
      repeat' (first | (refine ACalls.start ?_; first | (refine ACalls.ofJi (ht) rfl ?_)) | (refine qcall_start ?_; first | (refine qcallFi (ht) rfl ?_ ?_; (focus ((first | exact rfl | (simp [pureV, flatV, blockE_val, blockE_sz, blockResultE_val, blockResultE_sz, ledgerE_val, ledgerE_sz]; done)))))) | (refine KV.run _ ?_) | (refine KQ.run _ ?_) | (refine KT.run _ ?_) | (refine AWp.seqH fun KC => ?_) | (refine AWp.block ?_) | (refine AWp.region ?_) | (refine mops_step0 rfl rfl fun KC => ?_) | (refine mops_step1 rfl fun KC => ?_) | (refine mops_step2 rfl fun KC => ?_) | (refine AWp.ret ?_) | (refine AWp.skip ?_) | (refine AWp.exit ?_) | (refine aops_callH rfl fun kC => ?_) | (refine qops_callH rfl fun kC => ?_) | (refine AWp.condB ?_) | (simp only [bse, wk, tys, storeH_ptr, Nat.reduceEqDiff, ↓reduceIte, reduceCtorEq, Nat.reduceAdd, Nat.reduceLeDiff, Int.reduceBEq, Int.reduceLT, Int.reduceLE, Int.reduceEq, ne_eq, not_false_eq_true, Nat.reduceMul, blockE_val, blockE_sz, blockResultE_val, blockResultE_sz, ledgerE_val, ledgerE_sz, *]) | (refine condK_bool (fun hb => ?_) (fun hb => ?_) <;> ((try simp only [Bool.not_eq_true', Bool.not_eq_false'] at hb) <;> (try (have hbe := of_decide_eq_true hb)) <;> (try (have hbe := eq_of_beq hb)))) | (refine aops_partB ?_) | (refine qops_partB ?_))
      refine ACalls.get (hrd.use (BorL.same (by repeat' (first | exact Im.nilL | refine Im.consL ?_ ?_ | refine Im.appL ?_ ?_ | exact Im.flat _ rfl | exact islE_im _ _ | exact Enc.val_im _ _ | assumption | refine Im.aggL ?_ | refine Im.funcL ?_ | refine Im.funcA ?_ | refine Im.isl ?_ | refine Im.ip ?_)))) (by first | exact Nat.le_refl _ | exact Nat.zero_le _ | (simp only [List.length_append, List.length_cons, List.length_nil]; omega) | (simp only [List.length_set]; omega) | omega) (by first | exact Nat.le_refl _ | exact Nat.zero_le _ | (simp only [List.length_append, List.length_cons, List.length_nil]; omega) | (simp only [List.length_set]; omega) | omega) ?_
      rintro d _ ⟨S, hN⟩
      obtain ⟨M, rfl⟩ := hN.more
      obtain ⟨ys, rfl, o1⟩ := OwnL.tupI (ys := [.agg #[.int .i64 x1, .int .i64 x2, .int .i64 x3, islE intE zs], .bool false]) hN.own
      obtain ⟨d1, m1, S1, R1, rfl, rfl, p1, o2⟩ := OwnL.consI o1
      obtain ⟨m2, rfl, o3⟩ := OwnL.flatI o2 rfl
      obtain ⟨rfl, rfl⟩ := OwnL.nilI o3
      obtain ⟨xs, rfl, q1⟩ := OwnL.aggI (ys := [.int .i64 x1, .int .i64 x2, .int .i64 x3, islE intE zs]) p1
      obtain ⟨m3, rfl, q2⟩ := OwnL.flatI q1 rfl
      obtain ⟨m4, rfl, q3⟩ := OwnL.flatI q2 rfl
      obtain ⟨m5, rfl, q4⟩ := OwnL.flatI q3 rfl
      obtain ⟨d6, m6, S6, R6, rfl, rfl, p6, q5⟩ := OwnL.consI q4
      obtain ⟨rfl, rfl⟩ := OwnL.nilI q5
      obtain ⟨a, n, ver, rfl⟩ := p6.slD
      clear hN o1 o2 o3 p1 q1 q2 q3 q4 q5 p6
      repeat' (first | (refine KV.run _ ?_) | (refine KQ.run _ ?_) | (refine KT.run _ ?_) | (refine AWp.seqH fun KC => ?_) | (refine AWp.block ?_) | (refine AWp.region ?_) | (refine mops_step0 rfl rfl fun KC => ?_) | (refine mops_step1 rfl fun KC => ?_) | (refine mops_step2 rfl fun KC => ?_) | (refine AWp.ret ?_) | (refine AWp.skip ?_) | (refine AWp.exit ?_) | (refine aops_callH rfl fun kC => ?_) | (refine qops_callH rfl fun kC => ?_) | (refine AWp.condB ?_) | (simp only [bse, wk, tys, storeH_ptr, Nat.reduceEqDiff, ↓reduceIte, reduceCtorEq, Nat.reduceAdd, Nat.reduceLeDiff, Int.reduceBEq, Int.reduceLT, Int.reduceLE, Int.reduceEq, ne_eq, not_false_eq_true, Nat.reduceMul, blockE_val, blockE_sz, blockResultE_val, blockResultE_sz, ledgerE_val, ledgerE_sz, *]) | (refine condK_bool (fun hb => ?_) (fun hb => ?_) <;> ((try simp only [Bool.not_eq_true', Bool.not_eq_false'] at hb) <;> (try (have hbe := of_decide_eq_true hb)) <;> (try (have hbe := eq_of_beq hb)))) | (refine aops_partB ?_) | (refine qops_partB ?_))
      exact own_tup0 5
    | true =>
      simp only [if_true]
      refine NCalls.of ?_; refine ACalls.enter (n := 29) (rs := [.cell 4 29, .tmp 5]) Tryz.func26 rfl rfl rfl (by kernel_rfl) (by kernel_rfl) (by kernel_rfl) (Nat.le_of_ble_eq_true rfl) ?_
      repeat' (first | (refine ACalls.start ?_; first | (refine ACalls.ofJi (ht) rfl ?_)) | (refine qcall_start ?_; first | (refine qcallFi (ht) rfl ?_ ?_; (focus ((first | exact rfl | (simp [pureV, flatV, blockE_val, blockE_sz, blockResultE_val, blockResultE_sz, ledgerE_val, ledgerE_sz]; done)))))) | (refine KV.run _ ?_) | (refine KQ.run _ ?_) | (refine KT.run _ ?_) | (refine AWp.seqH fun KC => ?_) | (refine AWp.block ?_) | (refine AWp.region ?_) | (refine mops_step0 rfl rfl fun KC => ?_) | (refine mops_step1 rfl fun KC => ?_) | (refine mops_step2 rfl fun KC => ?_) | (refine AWp.ret ?_) | (refine AWp.skip ?_) | (refine AWp.exit ?_) | (refine aops_callH rfl fun kC => ?_) | (refine qops_callH rfl fun kC => ?_) | (refine AWp.condB ?_) | (simp only [bse, wk, tys, storeH_ptr, Nat.reduceEqDiff, ↓reduceIte, reduceCtorEq, Nat.reduceAdd, Nat.reduceLeDiff, Int.reduceBEq, Int.reduceLT, Int.reduceLE, Int.reduceEq, ne_eq, not_false_eq_true, Nat.reduceMul, blockE_val, blockE_sz, blockResultE_val, blockResultE_sz, ledgerE_val, ledgerE_sz, *]) | (refine condK_bool (fun hb => ?_) (fun hb => ?_) <;> ((try simp only [Bool.not_eq_true', Bool.not_eq_false'] at hb) <;> (try (have hbe := of_decide_eq_true hb)) <;> (try (have hbe := eq_of_beq hb)))) | (refine aops_partB ?_) | (refine qops_partB ?_))
      refine ACalls.get (hrd.use (BorL.same (by repeat' (first | exact Im.nilL | refine Im.consL ?_ ?_ | refine Im.appL ?_ ?_ | exact Im.flat _ rfl | exact islE_im _ _ | exact Enc.val_im _ _ | assumption | refine Im.aggL ?_ | refine Im.funcL ?_ | refine Im.funcA ?_ | refine Im.isl ?_ | refine Im.ip ?_)))) (by first | exact Nat.le_refl _ | exact Nat.zero_le _ | (simp only [List.length_append, List.length_cons, List.length_nil]; omega) | (simp only [List.length_set]; omega) | omega) (by first | exact Nat.le_refl _ | exact Nat.zero_le _ | (simp only [List.length_append, List.length_cons, List.length_nil]; omega) | (simp only [List.length_set]; omega) | omega) ?_
      rintro d _ ⟨S, hN⟩
      obtain ⟨M, rfl⟩ := hN.more
      obtain ⟨ys, rfl, o1⟩ := OwnL.tupI (ys := [.agg #[.int .i64 x1, .int .i64 x2, .int .i64 x3, islE intE zs], .bool true]) hN.own
      obtain ⟨d1, m1, S1, R1, rfl, rfl, p1, o2⟩ := OwnL.consI o1
      obtain ⟨m2, rfl, o3⟩ := OwnL.flatI o2 rfl
      obtain ⟨rfl, rfl⟩ := OwnL.nilI o3
      obtain ⟨xs, rfl, q1⟩ := OwnL.aggI (ys := [.int .i64 x1, .int .i64 x2, .int .i64 x3, islE intE zs]) p1
      obtain ⟨m3, rfl, q2⟩ := OwnL.flatI q1 rfl
      obtain ⟨m4, rfl, q3⟩ := OwnL.flatI q2 rfl
      obtain ⟨m5, rfl, q4⟩ := OwnL.flatI q3 rfl
      obtain ⟨d6, m6, S6, R6, rfl, rfl, p6, q5⟩ := OwnL.consI q4
      obtain ⟨rfl, rfl⟩ := OwnL.nilI q5
      obtain ⟨a, n, ver, rfl⟩ := p6.slD
      have hnd := hN.nd
      have hlo : ∀ r ∈ S6, 2 ≤ r := fun r hr => by have := hN.lo r (by simp [hr]); simpa using this
      have hnd6 : S6.Nodup := by simpa using hnd
      have p7 : ∀ (c0 c1 : Blk) (L : AH), OwnL true (c0 :: c1 :: (M ++ L)) [.slice a n ver] [islE intE zs] S6 := fun c0 c1 L => (p6.app L).frame fun r hr => by
        have := hlo r hr
        obtain ⟨q, rfl⟩ : ∃ q, r = q + 2 := ⟨r - 2, by omega⟩
        rfl
      clear hN hnd hlo o1 o2 o3 p1 q1 q2 q3 q4 q5 p6
      repeat' (first | (refine KV.run _ ?_) | (refine KQ.run _ ?_) | (refine KT.run _ ?_) | (refine AWp.seqH fun KC => ?_) | (refine AWp.block ?_) | (refine AWp.region ?_) | (refine mops_step0 rfl rfl fun KC => ?_) | (refine mops_step1 rfl fun KC => ?_) | (refine mops_step2 rfl fun KC => ?_) | (refine AWp.ret ?_) | (refine AWp.skip ?_) | (refine AWp.exit ?_) | (refine aops_callH rfl fun kC => ?_) | (refine qops_callH rfl fun kC => ?_) | (refine AWp.condB ?_) | (simp only [bse, wk, tys, storeH_ptr, Nat.reduceEqDiff, ↓reduceIte, reduceCtorEq, Nat.reduceAdd, Nat.reduceLeDiff, Int.reduceBEq, Int.reduceLT, Int.reduceLE, Int.reduceEq, ne_eq, not_false_eq_true, Nat.reduceMul, blockE_val, blockE_sz, blockResultE_val, blockResultE_sz, ledgerE_val, ledgerE_sz, *]) | (refine condK_bool (fun hb => ?_) (fun hb => ?_) <;> ((try simp only [Bool.not_eq_true', Bool.not_eq_false'] at hb) <;> (try (have hbe := of_decide_eq_true hb)) <;> (try (have hbe := eq_of_beq hb)))) | (refine aops_partB ?_) | (refine qops_partB ?_))
      exact ⟨S6 ++ [], by simpa using hnd6, OwnL.loose (OwnL.tupL (OwnL.consL (OwnL.aggL (.flat rfl (.flat rfl (.flat rfl (p7 _ _ _))))) (.flat rfl .nil)))⟩
theorem lf_texts {l : TLedger} (h : ledgerFault l = 0) : ∀ s ∈ l.texts, s.size ≤ 300 := by
  have hsc : ∀ (K : Int) (xs pre : List ByteArray), scanK txF K pre xs = 0 → ∀ x ∈ xs, x.size ≤ 300 := fun K xs => by
    induction xs with
    | nil => intro pre _ x hx; simp at hx
    | cons y l ih =>
      intro pre h x hx
      unfold scanK at h
      split at h
      · rename_i h0
        rcases List.mem_cons.1 hx with rfl | hx
        · unfold txF at h0
          split at h0
          · simp at h0
          · rename_i h1; unfold textB inB at h1; simp at h1; omega
        · exact ih _ h x hx
      · rename_i h0; exact absurd (by rw [h]; rfl) h0
  unfold ledgerFault at h
  split at h
  · omega
  · exact hsc _ _ _ h
theorem getS_size {l : TLedger} {id : Int} (h : ledgerFault l = 0) (hc : inB id 1 l.texts.length = true) : (getS l.texts id).size ≤ 300 := by
  obtain ⟨k, hk, rfl⟩ := inB_nat hc
  rw [getS_at hk]
  exact lf_texts h _ (List.getElem_mem hk)
theorem impl_BlockIn (l : TLedger) (id : Int) (h : nLedger l ≤ 1048576) : NCalls Tryz.prog 8 [ledgerE.val l, .int .i64 id] (blockResultE.val (blockInF l id)) := by
  have hn1 : l.texts.length ≤ 1048576 := by unfold nLedger at h; have := nStrS_len l.texts; omega
  have hn2 : l.signs.length ≤ 1048576 := by unfold nLedger at h; omega
  have hlf := impl_LedgerFault l hn1 hn2
  unfold blockInF
  cases hf : (ledgerFault l == 0) with
  | false =>
    simp only [Bool.not_false, if_true]
    generalize ledgerFault l = F at hf hlf ⊢
    clear h hn1 hn2
    refine NCalls.of ?_; refine ACalls.enter (n := 23) (rs := [.cell 4 31]) Tryz.func8 rfl rfl rfl (by kernel_rfl) (by kernel_rfl) (by kernel_rfl) (Nat.le_of_ble_eq_true rfl) ?_
    repeat' (first | (refine ACalls.start ?_; first | (refine ACalls.ofJi (hlf) rfl ?_)) | (refine qcall_start ?_; first | (refine qcallFi (hlf) rfl ?_ ?_; (focus ((first | exact rfl | (simp [pureV, flatV, blockE_val, blockE_sz, blockResultE_val, blockResultE_sz, ledgerE_val, ledgerE_sz]; done)))))) | (refine KV.run _ ?_) | (refine KQ.run _ ?_) | (refine KT.run _ ?_) | (refine AWp.seqH fun KC => ?_) | (refine AWp.block ?_) | (refine AWp.region ?_) | (refine mops_step0 rfl rfl fun KC => ?_) | (refine mops_step1 rfl fun KC => ?_) | (refine mops_step2 rfl fun KC => ?_) | (refine AWp.ret ?_) | (refine AWp.skip ?_) | (refine AWp.exit ?_) | (refine aops_callH rfl fun kC => ?_) | (refine qops_callH rfl fun kC => ?_) | (refine AWp.condB ?_) | (simp only [bse, wk, tys, storeH_ptr, Nat.reduceEqDiff, ↓reduceIte, reduceCtorEq, Nat.reduceAdd, Nat.reduceLeDiff, Int.reduceBEq, Int.reduceLT, Int.reduceLE, Int.reduceEq, ne_eq, not_false_eq_true, Nat.reduceMul, blockE_val, blockE_sz, blockResultE_val, blockResultE_sz, ledgerE_val, ledgerE_sz, *]) | (refine condK_bool (fun hb => ?_) (fun hb => ?_) <;> ((try simp only [Bool.not_eq_true', Bool.not_eq_false'] at hb) <;> (try (have hbe := of_decide_eq_true hb)) <;> (try (have hbe := eq_of_beq hb)))) | (refine aops_partB ?_) | (refine qops_partB ?_))
    exact ⟨[], by simp, OwnL.aggL (l := [.int .i64 F, .int .i64 0, .int .i64 0, .int .i64 0, .slice none 0 0]) (l' := [.int .i64 F, .int .i64 0, .int .i64 0, .int .i64 0, islE intE []]) (.flat rfl (.flat rfl (.flat rfl (.flat rfl (.nils .nil)))))⟩
  | true =>
    have hf0 := eq_of_beq hf
    simp only [Bool.not_true, Bool.false_eq_true, if_false]
    have hbi := impl_blockIn l id hn1 fun hc => getS_size hf0 hc
    rw [hf0] at hlf
    generalize blkIn l id = R at hbi ⊢
    obtain ⟨⟨x1, x2, x3, zs⟩, code⟩ := R
    dsimp only at hbi ⊢
    simp only [blockE_val] at hbi
    clear h hn1 hn2 hf hf0
    refine NCalls.of ?_; refine ACalls.enter (n := 23) (rs := [.cell 4 31]) Tryz.func8 rfl rfl rfl (by kernel_rfl) (by kernel_rfl) (by kernel_rfl) (Nat.le_of_ble_eq_true rfl) ?_
    repeat' (first | (refine ACalls.start ?_; first | (refine ACalls.ofJi (hlf) rfl ?_)) | (refine qcall_start ?_; first | (refine qcallFi (hlf) rfl ?_ ?_; (focus ((first | exact rfl | (simp [pureV, flatV, blockE_val, blockE_sz, blockResultE_val, blockResultE_sz, ledgerE_val, ledgerE_sz]; done)))))) | (refine KV.run _ ?_) | (refine KQ.run _ ?_) | (refine KT.run _ ?_) | (refine AWp.seqH fun KC => ?_) | (refine AWp.block ?_) | (refine AWp.region ?_) | (refine mops_step0 rfl rfl fun KC => ?_) | (refine mops_step1 rfl fun KC => ?_) | (refine mops_step2 rfl fun KC => ?_) | (refine AWp.ret ?_) | (refine AWp.skip ?_) | (refine AWp.exit ?_) | (refine aops_callH rfl fun kC => ?_) | (refine qops_callH rfl fun kC => ?_) | (refine AWp.condB ?_) | (simp only [bse, wk, tys, storeH_ptr, Nat.reduceEqDiff, ↓reduceIte, reduceCtorEq, Nat.reduceAdd, Nat.reduceLeDiff, Int.reduceBEq, Int.reduceLT, Int.reduceLE, Int.reduceEq, ne_eq, not_false_eq_true, Nat.reduceMul, blockE_val, blockE_sz, blockResultE_val, blockResultE_sz, ledgerE_val, ledgerE_sz, *]) | (refine condK_bool (fun hb => ?_) (fun hb => ?_) <;> ((try simp only [Bool.not_eq_true', Bool.not_eq_false'] at hb) <;> (try (have hbe := of_decide_eq_true hb)) <;> (try (have hbe := eq_of_beq hb)))) | (refine aops_partB ?_) | (refine qops_partB ?_))
    refine ACalls.get (hbi.use (BorL.same (by repeat' (first | exact Im.nilL | refine Im.consL ?_ ?_ | refine Im.appL ?_ ?_ | exact Im.flat _ rfl | exact islE_im _ _ | exact Enc.val_im _ _ | assumption | refine Im.aggL ?_ | refine Im.funcL ?_ | refine Im.funcA ?_ | refine Im.isl ?_ | refine Im.ip ?_)))) (by first | exact Nat.le_refl _ | exact Nat.zero_le _ | (simp only [List.length_append, List.length_cons, List.length_nil]; omega) | (simp only [List.length_set]; omega) | omega) (by first | exact Nat.le_refl _ | exact Nat.zero_le _ | (simp only [List.length_append, List.length_cons, List.length_nil]; omega) | (simp only [List.length_set]; omega) | omega) ?_
    rintro d _ ⟨S, hN⟩
    obtain ⟨M, rfl⟩ := hN.more
    obtain ⟨ys, rfl, o1⟩ := OwnL.tupI (ys := [.agg #[.int .i64 x1, .int .i64 x2, .int .i64 x3, islE intE zs], .int .i64 code]) hN.own
    obtain ⟨d1, m1, S1, R1, rfl, rfl, p1, o2⟩ := OwnL.consI o1
    obtain ⟨m2, rfl, o3⟩ := OwnL.flatI o2 rfl
    obtain ⟨rfl, rfl⟩ := OwnL.nilI o3
    obtain ⟨xs, rfl, q1⟩ := OwnL.aggI (ys := [.int .i64 x1, .int .i64 x2, .int .i64 x3, islE intE zs]) p1
    obtain ⟨m3, rfl, q2⟩ := OwnL.flatI q1 rfl
    obtain ⟨m4, rfl, q3⟩ := OwnL.flatI q2 rfl
    obtain ⟨m5, rfl, q4⟩ := OwnL.flatI q3 rfl
    obtain ⟨d6, m6, S6, R6, rfl, rfl, p6, q5⟩ := OwnL.consI q4
    obtain ⟨rfl, rfl⟩ := OwnL.nilI q5
    obtain ⟨a, n, ver, rfl⟩ := p6.slD
    have hnd := hN.nd
    have hlo : ∀ r ∈ S6, 2 ≤ r := fun r hr => by have := hN.lo r (by simp [hr]); simpa using this
    have hnd6 : S6.Nodup := by simpa using hnd
    have p7 : ∀ (c0 c1 : Blk) (L : AH), OwnL true (c0 :: c1 :: (M ++ L)) [.slice a n ver] [islE intE zs] S6 := fun c0 c1 L => (p6.app L).frame fun r hr => by
      have := hlo r hr
      obtain ⟨q, rfl⟩ : ∃ q, r = q + 2 := ⟨r - 2, by omega⟩
      rfl
    clear hN hnd hlo o1 o2 o3 p1 q1 q2 q3 q4 q5 p6
    repeat' (first | (refine KV.run _ ?_) | (refine KQ.run _ ?_) | (refine KT.run _ ?_) | (refine AWp.seqH fun KC => ?_) | (refine AWp.block ?_) | (refine AWp.region ?_) | (refine mops_step0 rfl rfl fun KC => ?_) | (refine mops_step1 rfl fun KC => ?_) | (refine mops_step2 rfl fun KC => ?_) | (refine AWp.ret ?_) | (refine AWp.skip ?_) | (refine AWp.exit ?_) | (refine aops_callH rfl fun kC => ?_) | (refine qops_callH rfl fun kC => ?_) | (refine AWp.condB ?_) | (simp only [bse, wk, tys, storeH_ptr, Nat.reduceEqDiff, ↓reduceIte, reduceCtorEq, Nat.reduceAdd, Nat.reduceLeDiff, Int.reduceBEq, Int.reduceLT, Int.reduceLE, Int.reduceEq, ne_eq, not_false_eq_true, Nat.reduceMul, blockE_val, blockE_sz, blockResultE_val, blockResultE_sz, ledgerE_val, ledgerE_sz, *]) | (refine condK_bool (fun hb => ?_) (fun hb => ?_) <;> ((try simp only [Bool.not_eq_true', Bool.not_eq_false'] at hb) <;> (try (have hbe := of_decide_eq_true hb)) <;> (try (have hbe := eq_of_beq hb)))) | (refine aops_partB ?_) | (refine qops_partB ?_))
    exact ⟨S6, hnd6, OwnL.loose (OwnL.aggL (.flat rfl (.flat rfl (.flat rfl (.flat rfl (p7 _ _ _))))))⟩
end Go.BM
