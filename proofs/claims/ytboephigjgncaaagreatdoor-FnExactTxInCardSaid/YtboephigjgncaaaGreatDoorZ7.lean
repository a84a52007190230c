/- Packed: K19, K21, K20, K22. -/
import Derived.Test.YtboephigjgncaaaGreatDoorZ4
import Derived.Test.YtboephigjgncaaaGreatDoorZ6
/- Transactions: what is wrong with them: the program. -/
set_option linter.unusedVariables false
set_option linter.unusedSimpArgs false
set_option maxRecDepth 100000
set_option maxHeartbeats 4000000
namespace Go.BM
open Go.Proofs Go.RowKit
attribute [local irreducible] ACalls AWp aops qops optK optP cK gateA condK mops qcallK PCalls loadV fldV idxV lenV slV storeH binS
def refF (pre : List TRef) (x : TRef) : Int := if !refB x then 3 else if pre.any (fun y => x.tx == y.tx && x.at' == y.at') then 7 else 0
def outFault (x : TOut) : Int := if !inB x.value 1 1000000 then 3 else ruleFault x.rule.keys x.rule.need x.rule.after
def outF (_ : List TOut) (x : TOut) : Int := outFault x
def val0 (outs : List TOut) : Int := match outs with | o :: _ => o.value | [] => 0
def txEnd (t : TTx) : Int := if t.kind == 1 && decide (val0 t.outs < 100) then 8 else 0
def txFault (t : TTx) : Int :=
  if !inB t.kind 0 2 || ((t.kind == 0) != (t.member == 0)) then 1
  else if !(t.member == 0) && !inB t.member 1 999 then 3
  else if !inB t.ins.length 1 4 || !inB t.outs.length 1 4 then 2
  else scanK refF (scanK outF (txEnd t) [] t.outs) [] t.ins
theorem impl_isMany (n : Int) : PCalls Tryz.prog 105 [.int .i64 n] (.bool (!inB n 1 4)) := by
  have e : (!inB n 1 4) = (decide (n < 1) || decide (4 < n)) := by
    unfold inB
    by_cases h1 : n < 1 <;> by_cases h2 : 4 < n <;> simp_all <;> omega
  rw [e]
  clear e
  refine PCalls.flat rfl ?_; refine ACalls.enter (n := 9) (rs := [.tmp 2]) Tryz.func105 rfl rfl rfl (by kernel_rfl) (by kernel_rfl) (by kernel_rfl) (Nat.le_of_ble_eq_true rfl) ?_
  repeat' (first | (refine KT.run _ ?_) | (refine AWp.seqH fun KC => ?_) | (refine AWp.region ?_) | (refine AWp.ret ?_) | (simp only [bse, wk, tys, storeH_ptr, Nat.reduceEqDiff, ↓reduceIte, reduceCtorEq, Nat.reduceAdd, Nat.reduceLeDiff, Int.reduceBEq, Int.reduceLT, Int.reduceLE, Int.reduceEq, ne_eq, not_false_eq_true, Nat.reduceMul, refE_val, refE_sz, outE_val, outE_sz, txE_val, txE_sz, ruleE_val, ruleE_sz, *]) | (refine condK_bool (fun hb => ?_) (fun hb => ?_) <;> ((try simp only [Bool.not_eq_true', Bool.not_eq_false'] at hb) <;> (try (have hbe := of_decide_eq_true hb)) <;> (try (have hbe := eq_of_beq hb)))) | (refine aops_partB ?_))
  all_goals simp [*]
theorem impl_outFault (x : TOut) (h : x.rule.keys.length ≤ 1000000) : PCalls Tryz.prog 108 [outE.val x] (.int .i64 (outFault x)) := by
  have hr := impl_RuleFault x.rule (by omega)
  unfold outFault
  refine PCalls.flat rfl ?_; refine ACalls.enter (n := 10) (rs := [.tmp 2]) Tryz.func108 rfl rfl rfl (by kernel_rfl) (by kernel_rfl) (by kernel_rfl) (Nat.le_of_ble_eq_true rfl) ?_
  repeat' (first | (refine ACalls.start ?_; first | (refine ACalls.ofJi (impl_within _ _ _) rfl ?_) | (refine ACalls.ofJi (hr) rfl ?_)) | (refine KV.run _ ?_) | (refine KT.run _ ?_) | (refine AWp.seqH fun KC => ?_) | (refine AWp.region ?_) | (refine AWp.ret ?_) | (refine AWp.skip ?_) | (refine aops_callH rfl fun kC => ?_) | (refine AWp.condB ?_) | (simp only [bse, wk, tys, storeH_ptr, Nat.reduceEqDiff, ↓reduceIte, reduceCtorEq, Nat.reduceAdd, Nat.reduceLeDiff, Int.reduceBEq, Int.reduceLT, Int.reduceLE, Int.reduceEq, ne_eq, not_false_eq_true, Nat.reduceMul, refE_val, refE_sz, outE_val, outE_sz, txE_val, txE_sz, ruleE_val, ruleE_sz, *]) | (refine condK_bool (fun hb => ?_) (fun hb => ?_) <;> ((try simp only [Bool.not_eq_true', Bool.not_eq_false'] at hb) <;> (try (have hbe := of_decide_eq_true hb)) <;> (try (have hbe := eq_of_beq hb)))))
theorem out0 (outs : List TOut) (h : outs.length ≠ 0) : ∃ tl, outE.flat outs = .int .i64 (val0 outs) :: tl := by
  cases outs with
  | nil => simp at h
  | cons o os => exact ⟨_, rfl⟩
theorem impl_TxFault (t : TTx) (h1 : t.ins.length ≤ 1048576) (h2 : t.outs.length ≤ 1048576) (h3 : ∀ x ∈ t.outs, x.rule.keys.length ≤ 1000000) : PCalls Tryz.prog 86 [txE.val t] (.int .i64 (txFault t)) := by
  have hzero : t.outs.length ≠ 0 → ∃ tl, ∀ H : AH, idxV Tryz.prog H 43 (islE outE t.outs) (.int .i64 0) = some (ip (.int .i64 (val0 t.outs) :: tl)) := fun h => by
    obtain ⟨tl, e⟩ := out0 t.outs h
    exact ⟨tl, fun H => by
      have := idxV_isl (P := Tryz.prog) (H := H) (n := t.outs.length) (k := 0) (kd := .i64) (cs := outE.flat t.outs) elZ43 (by omega)
      rw [e] at this
      simpa [islE, e] using this⟩
  refine PCalls.flat rfl ?_; refine ACalls.enter (n := 88) (rs := [.tmp 2]) Tryz.func86 rfl rfl rfl (by kernel_rfl) (by kernel_rfl) (by kernel_rfl) (Nat.le_of_ble_eq_true rfl) ?_
  repeat' (first | (refine ACalls.start ?_; first | (refine ACalls.ofJi (impl_within _ _ _) rfl ?_) | (refine ACalls.ofJi (impl_isKey _) rfl ?_) | (refine ACalls.ofJi (impl_isMany _) rfl ?_)) | (refine KV.run _ ?_) | (refine KT.run _ ?_) | (refine AWp.seqH fun KC => ?_) | (refine AWp.block ?_) | (refine AWp.region ?_) | (refine AWp.ret ?_) | (refine AWp.skip ?_) | (refine aops_callH rfl fun kC => ?_) | (refine AWp.condB ?_) | (simp only [bse, wk, tys, storeH_ptr, Nat.reduceEqDiff, ↓reduceIte, reduceCtorEq, Nat.reduceAdd, Nat.reduceLeDiff, Int.reduceBEq, Int.reduceLT, Int.reduceLE, Int.reduceEq, ne_eq, not_false_eq_true, Nat.reduceMul, refE_val, refE_sz, outE_val, outE_sz, txE_val, txE_sz, ruleE_val, ruleE_sz, *]) | (refine condK_bool (fun hb => ?_) (fun hb => ?_) <;> ((try simp only [Bool.not_eq_true', Bool.not_eq_false'] at hb) <;> (try (have hbe := of_decide_eq_true hb)) <;> (try (have hbe := eq_of_beq hb)))) | (refine aops_partB ?_))
  all_goals try (first | rfl | (simp only [txFault, bse, wk, tys, storeH_ptr, Nat.reduceEqDiff, ↓reduceIte, reduceCtorEq, Nat.reduceAdd, Nat.reduceLeDiff, Int.reduceBEq, Int.reduceLT, Int.reduceLE, Int.reduceEq, ne_eq, not_false_eq_true, Nat.reduceMul, refE_val, refE_sz, outE_val, outE_sz, txE_val, txE_sz, ruleE_val, ruleE_sz, if_true, if_false, ite_true, ite_false, Bool.false_eq_true, *]; done) | (simp [txFault, *]; done) | (simp_all [txFault]; done) | (simp_all [txFault]; (repeat' split) <;> first | rfl | omega))
  all_goals
    have hV0 : Hid (txFault t = scanK (refF) (scanK outF (txEnd t) [] t.outs) [] t.ins) := by unfold Hid; (first | rfl | (simp only [txFault, bse, wk, tys, storeH_ptr, Nat.reduceEqDiff, ↓reduceIte, reduceCtorEq, Nat.reduceAdd, Nat.reduceLeDiff, Int.reduceBEq, Int.reduceLT, Int.reduceLE, Int.reduceEq, ne_eq, not_false_eq_true, Nat.reduceMul, refE_val, refE_sz, outE_val, outE_sz, txE_val, txE_sz, ruleE_val, ruleE_sz, if_true, if_false, ite_true, ite_false, Bool.false_eq_true, *]; done) | (simp [txFault, *]; done) | (simp_all [txFault]; done) | (simp_all [txFault]; (repeat' split) <;> first | rfl | omega))
    refine AWp.loopH [50, 51, 52, 53, 5, 4, 54, 55, 56, 2, 57, 58, 59, 60, 61, 62, 63, 49] (fun m e' H' => ∃ (k : Nat) (G : AH), k ≤ t.ins.length ∧ m = t.ins.length - k ∧ e' 49 = .int .i64 k ∧ H' = _ :: G ∧ Hid (txFault t = scanK (refF) (scanK outF (txEnd t) [] t.outs) (t.ins.take k) (t.ins.drop k))) t.ins.length ⟨0, [], by omega, by omega, rfl, rfl, hV0⟩ ?_
    rintro m e' H' hA0 ⟨k, G, hk, rfl, hix, rfl, hF⟩ hJ
    have hA := hA0
    have a1 := hA 1 rfl; have a47 := hA 47 rfl; have a48 := hA 48 rfl; try simp only [bse, wk, tys, storeH_ptr, Nat.reduceEqDiff, ↓reduceIte, reduceCtorEq, Nat.reduceAdd, Nat.reduceLeDiff, Int.reduceBEq, Int.reduceLT, Int.reduceLE, Int.reduceEq, ne_eq, not_false_eq_true, Nat.reduceMul] at a1 a47 a48; clear hA
    by_cases hlt : k < t.ins.length
    · have hlt' : (k : Int) < (t.ins.length : Int) := by omega
      have hw := wr_succ (k := k) (by omega)
      have hs : Hid _ := hF.out.trans (scanK_step (refF) (scanK outF (txEnd t) [] t.outs) t.ins k hlt)
      repeat' (first | (refine AWp.quiet (id := 13) (by kernel_rfl) (by kernel_rfl) ?_) | (refine ACalls.start ?_; first | (refine ACalls.ofJi (impl_isRef _) rfl ?_)) | (refine qcall_start ?_; first | (refine qcallFi (lib_Contains_Ref (t.ins.take k) t.ins[k] (by simp; omega)) rfl ?_ ?_; (focus ((first | exact rfl | (simp [pureV, flatV, refE_val, refE_sz, outE_val, outE_sz, txE_val, txE_sz, ruleE_val, ruleE_sz]; done)))))) | (refine KV.run _ ?_) | (refine KQ.run _ ?_) | (refine KT.run _ ?_) | (refine AWp.seqH fun KC => ?_) | (refine AWp.block ?_) | (refine AWp.region ?_) | (refine AWp.ret ?_) | (refine AWp.skip ?_) | (refine aops_callH rfl fun kC => ?_) | (refine qops_callH rfl fun kC => ?_) | (refine AWp.condB ?_) | (simp only [bse, wk, tys, storeH_ptr, Nat.reduceEqDiff, ↓reduceIte, reduceCtorEq, Nat.reduceAdd, Nat.reduceLeDiff, Int.reduceBEq, Int.reduceLT, Int.reduceLE, Int.reduceEq, ne_eq, not_false_eq_true, Nat.reduceMul, refE_val, refE_sz, outE_val, outE_sz, txE_val, txE_sz, ruleE_val, ruleE_sz, *]) | (refine condK_bool (fun hb => ?_) (fun hb => ?_) <;> ((try simp only [Bool.not_eq_true', Bool.not_eq_false'] at hb) <;> (try (have hbe := of_decide_eq_true hb)) <;> (try (have hbe := eq_of_beq hb)))))
      all_goals first
        | (refine hJ.out _ _ ⟨t.ins.length - (k + 1), by omega, k + 1, _, by omega, rfl, rfl, rfl, ?_⟩ (by repeat (first | exact Agree.refl _ _ | assumption | refine Agree.put ?_ rfl _)); unfold Hid; rw [hs.out]; (first | rfl | (simp only [refF, bse, wk, tys, storeH_ptr, Nat.reduceEqDiff, ↓reduceIte, reduceCtorEq, Nat.reduceAdd, Nat.reduceLeDiff, Int.reduceBEq, Int.reduceLT, Int.reduceLE, Int.reduceEq, ne_eq, not_false_eq_true, Nat.reduceMul, refE_val, refE_sz, outE_val, outE_sz, txE_val, txE_sz, ruleE_val, ruleE_sz, if_true, if_false, ite_true, ite_false, Bool.false_eq_true, *]; done) | (simp [refF, *]; done) | (simp_all [refF]; done) | (simp_all [refF]; (repeat' split) <;> first | rfl | omega)))
        | (rw [hs.out]; (first | rfl | (simp only [refF, bse, wk, tys, storeH_ptr, Nat.reduceEqDiff, ↓reduceIte, reduceCtorEq, Nat.reduceAdd, Nat.reduceLeDiff, Int.reduceBEq, Int.reduceLT, Int.reduceLE, Int.reduceEq, ne_eq, not_false_eq_true, Nat.reduceMul, refE_val, refE_sz, outE_val, outE_sz, txE_val, txE_sz, ruleE_val, ruleE_sz, if_true, if_false, ite_true, ite_false, Bool.false_eq_true, *]; done) | (simp [refF, *]; done) | (simp_all [refF]; done) | (simp_all [refF]; (repeat' split) <;> first | rfl | omega)))
    · have hlt' : ¬ (k : Int) < (t.ins.length : Int) := by omega
      have hs : Hid _ := hF.out.trans (scanK_end (refF) (scanK outF (txEnd t) [] t.outs) t.ins k hlt)
      clear hF
      repeat' (first | (refine KT.run _ ?_) | (refine AWp.seqH fun KC => ?_) | (refine AWp.block ?_) | (refine AWp.region ?_) | (refine AWp.exit ?_) | (refine AWp.condB ?_) | (simp only [bse, wk, tys, storeH_ptr, Nat.reduceEqDiff, ↓reduceIte, reduceCtorEq, Nat.reduceAdd, Nat.reduceLeDiff, Int.reduceBEq, Int.reduceLT, Int.reduceLE, Int.reduceEq, ne_eq, not_false_eq_true, Nat.reduceMul, refE_val, refE_sz, outE_val, outE_sz, txE_val, txE_sz, ruleE_val, ruleE_sz, *]))
      
      have hV1 : Hid (txFault t = scanK (outF) (txEnd t) [] t.outs) := by exact hs.out
      refine AWp.loopH [68, 69, 70, 7, 71, 72, 8, 73, 74, 75, 2, 76, 67] (fun m e' H' => ∃ (k : Nat) (G : AH), k ≤ t.outs.length ∧ m = t.outs.length - k ∧ e' 67 = .int .i64 k ∧ H' = _ :: G ∧ Hid (txFault t = scanK (outF) (txEnd t) (t.outs.take k) (t.outs.drop k))) t.outs.length ⟨0, _, by omega, by omega, rfl, rfl, hV1⟩ ?_
      rintro m e' H' hA1 ⟨k, G, hk, rfl, hix, rfl, hF⟩ hJ
      have hA := hA1
      have a1 := hA 1 rfl; have a65 := hA 65 rfl; have a66 := hA 66 rfl; try simp only [bse, wk, tys, storeH_ptr, Nat.reduceEqDiff, ↓reduceIte, reduceCtorEq, Nat.reduceAdd, Nat.reduceLeDiff, Int.reduceBEq, Int.reduceLT, Int.reduceLE, Int.reduceEq, ne_eq, not_false_eq_true, Nat.reduceMul] at a1 a65 a66; clear hA
      by_cases hlt : k < t.outs.length
      · have hlt' : (k : Int) < (t.outs.length : Int) := by omega
        have hw := wr_succ (k := k) (by omega)
        have hs : Hid _ := hF.out.trans (scanK_step (outF) (txEnd t) t.outs k hlt)
        have hq := impl_outFault t.outs[k] (h3 _ (List.getElem_mem hlt))
        all_goals repeat' (first | (refine ACalls.start ?_; first | (refine ACalls.ofJi (hq) rfl ?_)) | (refine KV.run _ ?_) | (refine KT.run _ ?_) | (refine AWp.seqH fun KC => ?_) | (refine AWp.block ?_) | (refine AWp.region ?_) | (refine AWp.ret ?_) | (refine AWp.skip ?_) | (refine aops_callH rfl fun kC => ?_) | (refine AWp.condB ?_) | (simp only [bse, wk, tys, storeH_ptr, Nat.reduceEqDiff, ↓reduceIte, reduceCtorEq, Nat.reduceAdd, Nat.reduceLeDiff, Int.reduceBEq, Int.reduceLT, Int.reduceLE, Int.reduceEq, ne_eq, not_false_eq_true, Nat.reduceMul, refE_val, refE_sz, outE_val, outE_sz, txE_val, txE_sz, ruleE_val, ruleE_sz, *]) | (refine condK_bool (fun hb => ?_) (fun hb => ?_) <;> ((try simp only [Bool.not_eq_true', Bool.not_eq_false'] at hb) <;> (try (have hbe := of_decide_eq_true hb)) <;> (try (have hbe := eq_of_beq hb)))))
        all_goals first
          | (refine hJ.out _ _ ⟨t.outs.length - (k + 1), by omega, k + 1, _, by omega, rfl, rfl, rfl, ?_⟩ (by repeat (first | exact Agree.refl _ _ | assumption | refine Agree.put ?_ rfl _)); unfold Hid; rw [hs.out]; (first | rfl | (simp only [outF, bse, wk, tys, storeH_ptr, Nat.reduceEqDiff, ↓reduceIte, reduceCtorEq, Nat.reduceAdd, Nat.reduceLeDiff, Int.reduceBEq, Int.reduceLT, Int.reduceLE, Int.reduceEq, ne_eq, not_false_eq_true, Nat.reduceMul, refE_val, refE_sz, outE_val, outE_sz, txE_val, txE_sz, ruleE_val, ruleE_sz, if_true, if_false, ite_true, ite_false, Bool.false_eq_true, *]; done) | (simp [outF, *]; done) | (simp_all [outF]; done) | (simp_all [outF]; (repeat' split) <;> first | rfl | omega)))
          | (rw [hs.out]; (first | rfl | (simp only [outF, bse, wk, tys, storeH_ptr, Nat.reduceEqDiff, ↓reduceIte, reduceCtorEq, Nat.reduceAdd, Nat.reduceLeDiff, Int.reduceBEq, Int.reduceLT, Int.reduceLE, Int.reduceEq, ne_eq, not_false_eq_true, Nat.reduceMul, refE_val, refE_sz, outE_val, outE_sz, txE_val, txE_sz, ruleE_val, ruleE_sz, if_true, if_false, ite_true, ite_false, Bool.false_eq_true, *]; done) | (simp [outF, *]; done) | (simp_all [outF]; done) | (simp_all [outF]; (repeat' split) <;> first | rfl | omega)))
      · have hlt' : ¬ (k : Int) < (t.outs.length : Int) := by omega
        have hs : Hid _ := hF.out.trans (scanK_end (outF) (txEnd t) t.outs k hlt)
        clear hF
        have ho : t.outs.length ≠ 0 := by
          intro e
          have hq : inB (t.outs.length : Int) 1 4 = false := by rw [e]; rfl
          simp_all
        obtain ⟨tl, hi0⟩ := hzero ho
        clear hzero
        repeat' (first | (refine KT.run _ ?_) | (refine AWp.seqH fun KC => ?_) | (refine AWp.region ?_) | (refine AWp.ret ?_) | (refine AWp.skip ?_) | (refine AWp.exit ?_) | (refine AWp.condB ?_) | (simp only [bse, wk, tys, storeH_ptr, Nat.reduceEqDiff, ↓reduceIte, reduceCtorEq, Nat.reduceAdd, Nat.reduceLeDiff, Int.reduceBEq, Int.reduceLT, Int.reduceLE, Int.reduceEq, ne_eq, not_false_eq_true, Nat.reduceMul, refE_val, refE_sz, outE_val, outE_sz, txE_val, txE_sz, ruleE_val, ruleE_sz, *]) | (refine condK_bool (fun hb => ?_) (fun hb => ?_) <;> ((try simp only [Bool.not_eq_true', Bool.not_eq_false'] at hb) <;> (try (have hbe := of_decide_eq_true hb)) <;> (try (have hbe := eq_of_beq hb)))) | (refine aops_partB ?_))
        all_goals (rw [hs.out]; (first | rfl | (simp only [txEnd, bse, wk, tys, storeH_ptr, Nat.reduceEqDiff, ↓reduceIte, reduceCtorEq, Nat.reduceAdd, Nat.reduceLeDiff, Int.reduceBEq, Int.reduceLT, Int.reduceLE, Int.reduceEq, ne_eq, not_false_eq_true, Nat.reduceMul, refE_val, refE_sz, outE_val, outE_sz, txE_val, txE_sz, ruleE_val, ruleE_sz, if_true, if_false, ite_true, ite_false, Bool.false_eq_true, *]; done) | (simp [txEnd, *]; done) | (simp_all [txEnd]; done) | (simp_all [txEnd]; (repeat' split) <;> first | rfl | omega)))
end Go.BM
/- Transactions: what a right one's numbers are; its words; texts joined. -/
set_option linter.unusedVariables false
set_option linter.unusedSimpArgs false
set_option maxRecDepth 100000
set_option maxHeartbeats 4000000
namespace Go.BM
open Go.Proofs Go.RowKit
attribute [local irreducible] ACalls AWp aops qops optK optP cK gateA condK mops qcallK PCalls loadV fldV idxV lenV slV storeH binS
theorem scanK_zero {α : Type} {f : List α → α → Int} {K : Int} : ∀ (xs pre : List α), scanK f K pre xs = 0 → K = 0 ∧ ∀ x ∈ xs, ∃ pre, f pre x = 0
  | [], pre, h => ⟨by unfold scanK at h; exact h, fun x hx => by simp at hx⟩
  | y :: l, pre, h => by
    unfold scanK at h
    split at h
    · rename_i h0
      have ih := scanK_zero l _ h
      refine ⟨ih.1, fun x hx => ?_⟩
      rcases List.mem_cons.1 hx with rfl | hx
      · exact ⟨pre, by simpa using h0⟩
      · exact ih.2 x hx
    · rename_i h0; exact absurd (by rw [h]; rfl) h0
theorem tx_bounds {t : TTx} (h : txFault t = 0) : (0 ≤ t.kind ∧ t.kind ≤ 2) ∧ (t.kind = 0 ↔ t.member = 0) ∧ (0 ≤ t.member ∧ t.member ≤ 999) ∧ (1 ≤ t.ins.length ∧ t.ins.length ≤ 4) ∧ (1 ≤ t.outs.length ∧ t.outs.length ≤ 4) ∧
    (∀ x ∈ t.ins, (1 ≤ x.tx ∧ x.tx ≤ 60) ∧ (0 ≤ x.at' ∧ x.at' ≤ 3)) ∧ (∀ x ∈ t.outs, (1 ≤ x.value ∧ x.value ≤ 1000000) ∧ ruleFault x.rule.keys x.rule.need x.rule.after = 0) := by
  unfold txFault at h
  split at h
  · simp at h
  rename_i h1
  split at h
  · simp at h
  rename_i h2
  split at h
  · simp at h
  rename_i h3
  obtain ⟨hK, hI⟩ := scanK_zero _ _ h
  obtain ⟨_, hO⟩ := scanK_zero _ _ hK
  unfold inB at h1 h2 h3
  simp at h1 h2 h3
  refine ⟨by omega, ?_, ?_, by omega, by omega, fun x hx => ?_, fun x hx => ?_⟩
  · obtain ⟨_, h1⟩ := h1
    constructor
    · intro e; simpa [e] using h1
    · intro e; simpa [e] using h1
  · by_cases hm : t.member = 0
    · omega
    · have := h2 hm; omega
  · obtain ⟨pre, e⟩ := hI x hx
    unfold refF at e
    split at e
    · simp at e
    · rename_i g; unfold refB inB at g; simp at g; omega
  · obtain ⟨pre, e⟩ := hO x hx
    unfold outF outFault at e
    split at e
    · simp at e
    · rename_i g; unfold inB at g; simp at g; exact ⟨by omega, e⟩
def refT (r : TRef) : List UInt8 := Lib.itoa r.tx ++ [58] ++ Lib.itoa r.at'
def outT (x : TOut) : List UInt8 := Lib.itoa x.value ++ [61] ++ ruleT 95 x.rule
def kindT (k : Int) : List UInt8 := if k = 0 then [112, 97, 121] else if k = 1 then [106, 111, 105, 110] else [108, 101, 97, 118, 101]
def txW (t : TTx) : List (List UInt8) := [kindT t.kind] ++ (if t.kind = 0 then [] else [Lib.itoa t.member]) ++ [Lib.join (t.ins.map refT) [43]] ++ t.outs.map outT
def txT (t : TTx) : List UInt8 := Lib.join (txW t) [32]
theorem joinTail_lenN (c : UInt8) (n : Nat) : ∀ ws : List (List UInt8), (∀ w ∈ ws, w.length ≤ n) → (Lib.joinTail [c] ws).length ≤ ws.length * (n + 1)
  | [], _ => by simp [Lib.joinTail]
  | w :: ws, h => by
    have ih := joinTail_lenN c n ws fun y hy => h y (by simp [hy])
    have hw := h w (by simp)
    have e : (ws.length + 1) * (n + 1) = ws.length * (n + 1) + (n + 1) := Nat.succ_mul _ _
    unfold Lib.joinTail at ih ⊢
    simp at ih ⊢
    omega
theorem join_lenN (c : UInt8) (n : Nat) (ws : List (List UInt8)) (h : ∀ w ∈ ws, w.length ≤ n) : (Lib.join ws [c]).length ≤ ws.length * (n + 1) := by
  cases ws with
  | nil => simp [Lib.join_nil]
  | cons w ws =>
    rw [Lib.join_cons, List.length_append]
    have := joinTail_lenN c n ws fun y hy => h y (by simp [hy])
    have hw := h w (by simp)
    have e : (ws.length + 1) * (n + 1) = ws.length * (n + 1) + (n + 1) := Nat.succ_mul _ _
    simp only [List.length_cons]
    omega
theorem lib_JoinL (ws : List (List UInt8)) (c : UInt8) (n : Nat) (hw : ∀ w ∈ ws, w.length ≤ n) (hn : ws.length * (n + 1) ≤ 1000000) : PCalls Tryz.prog 109 [islE strE (ws.map bs), .string (bs [c])] (.string (bs (Lib.join ws [c]))) := by
  have hml : (ws.map bs).map (·.data.toList) = ws := by rw [List.map_map]; conv => rhs; rw [← List.map_id ws]
                                                        apply List.map_congr_left; intro x _; simp
  have hl := join_lenN c n ws hw
  have hws : ws.length ≤ ws.length * (n + 1) := Nat.le_mul_of_pos_right _ (Nat.succ_pos _)
  have hj := lib_Join (ws.map bs) (bs [c]) (by rw [List.length_map]; omega) (by rw [hml, bs_list]; omega)
  rw [hml, bs_list] at hj
  exact hj
theorem dec_len7 {u : Nat} (h : u ≤ 9999999) : (Lib.decDigits u).length ≤ 7 := by
  have step : ∀ (k u : Nat), (∀ v, v < 10 ^ k → (Lib.decDigits v).length ≤ k) → u < 10 ^ (k + 1) → 1 ≤ k → (Lib.decDigits u).length ≤ k + 1 := fun k u ih hu hk => by
    by_cases h1 : u < 10
    · rw [Lib.decDigits, dif_pos h1]; simp
    · rw [Lib.decDigits, dif_neg h1]
      have := ih (u / 10) (by rw [Nat.pow_succ] at hu; omega)
      simp
      omega
  have s1 : ∀ v, v < 10 ^ 1 → (Lib.decDigits v).length ≤ 1 := fun v hv => by rw [Lib.decDigits, dif_pos (by omega)]; simp
  have s2 : ∀ v, v < 10 ^ 2 → (Lib.decDigits v).length ≤ 2 := fun v hv => step 1 v s1 hv (by omega)
  have s3 : ∀ v, v < 10 ^ 3 → (Lib.decDigits v).length ≤ 3 := fun v hv => step 2 v s2 hv (by omega)
  have s4 : ∀ v, v < 10 ^ 4 → (Lib.decDigits v).length ≤ 4 := fun v hv => step 3 v s3 hv (by omega)
  have s5 : ∀ v, v < 10 ^ 5 → (Lib.decDigits v).length ≤ 5 := fun v hv => step 4 v s4 hv (by omega)
  have s6 : ∀ v, v < 10 ^ 6 → (Lib.decDigits v).length ≤ 6 := fun v hv => step 5 v s5 hv (by omega)
  exact step 6 u s6 (by omega) (by omega)
theorem itoa_len7 {x : Int} (h : 0 ≤ x) (h2 : x ≤ 9999999) : (Lib.itoa x).length ≤ 7 := by rw [itoa_nat h]; exact dec_len7 (by omega)
theorem ruleT_len (c : UInt8) {r : TRule} (hr : ruleFault r.keys r.need r.after = 0) : (ruleT c r).length ≤ 40 := by
  obtain ⟨h1, h2, h3, h4⟩ := rf_bounds hr
  have hjl := joinI_len 44 r.keys (fun x hx => by have := h4 x hx; omega)
  have hl1 := itoa_len (x := r.need) (by omega) (by omega)
  have hl2 := itoa_len (x := r.after) (by omega) (by omega)
  unfold ruleT
  split <;> simp <;> omega
end Go.BM
/- Transactions: what is wrong with them: the reference. -/
set_option linter.unusedVariables false
set_option linter.unusedSimpArgs false
set_option maxRecDepth 100000
set_option maxHeartbeats 4000000
namespace Go.BM
open Go.Proofs Go.RowKit
attribute [local irreducible] ACalls AWp aops qops optK optP cK gateA condK mops qcallK PCalls loadV fldV idxV lenV slV storeH binS
theorem spec_l3Among (xs : List TRef) (t : TRef) (hn : xs.length ≤ 1000000000000) : PCalls Tryz.prog 99 [islE refE xs, refE.val t] (.bool (xs.any fun x => x.tx == t.tx && x.at' == t.at')) := by
  refine PCalls.flat rfl ?_; refine ACalls.enter (n := 18) (rs := [.tmp 4]) Tryz.func99 rfl rfl rfl (by kernel_rfl) (by kernel_rfl) (by kernel_rfl) (Nat.le_of_ble_eq_true rfl) ?_
  repeat' (first | (refine KT.run _ ?_) | (refine AWp.seqH fun KC => ?_) | (refine AWp.block ?_) | (refine AWp.region ?_) | (simp only [bse, wk, tys, storeH_ptr, Nat.reduceEqDiff, ↓reduceIte, reduceCtorEq, Nat.reduceAdd, Nat.reduceLeDiff, Int.reduceBEq, Int.reduceLT, Int.reduceLE, Int.reduceEq, ne_eq, not_false_eq_true, Nat.reduceMul, refE_val, refE_sz, outE_val, outE_sz, txE_val, txE_sz, ruleE_val, ruleE_sz, *]))
  refine AWp.loopH [6, 7, 8, 9, 12, 13, 14, 15, 16, 17, 4, 10, 11, 5] (fun m e' H' => ∃ (k : Nat) (G : AH), k ≤ xs.length ∧ m = xs.length - k ∧ e' 5 = .int .i64 k ∧ H' = _ :: G ∧ Hid (∀ j (hj : j < xs.length), j < k → (xs[j].tx == t.tx && xs[j].at' == t.at') = false)) xs.length ⟨0, [], by omega, by omega, rfl, rfl, fun j _ h => by omega⟩ ?_
  rintro m e' H' hA ⟨k, G, hk, rfl, hix, rfl, hno⟩ hJ
  have a0 := hA 0 rfl; have a3 := hA 3 rfl; try simp only [bse, wk, tys, storeH_ptr, Nat.reduceEqDiff, ↓reduceIte, reduceCtorEq, Nat.reduceAdd, Nat.reduceLeDiff, Int.reduceBEq, Int.reduceLT, Int.reduceLE, Int.reduceEq, ne_eq, not_false_eq_true, Nat.reduceMul] at a0 a3; clear hA
  by_cases hlt : k < xs.length
  · have hlt' : (k : Int) < (xs.length : Int) := by omega
    have hw := wr_succ (k := k) (by omega)
    cases hcc : (xs[k].tx == t.tx && xs[k].at' == t.at') with
    | true =>
      have hq : Hid _ := any_hit (fun x => x.tx == t.tx && x.at' == t.at') xs k hlt hcc
      repeat' (first | (refine AWp.quiet (id := 4) (by kernel_rfl) (by kernel_rfl) ?_) | (refine KT.run _ ?_) | (refine AWp.seqH fun KC => ?_) | (refine AWp.block ?_) | (refine AWp.region ?_) | (refine AWp.ret ?_) | (refine AWp.skip ?_) | (refine AWp.condB ?_) | (simp only [bse, wk, tys, storeH_ptr, Nat.reduceEqDiff, ↓reduceIte, reduceCtorEq, Nat.reduceAdd, Nat.reduceLeDiff, Int.reduceBEq, Int.reduceLT, Int.reduceLE, Int.reduceEq, ne_eq, not_false_eq_true, Nat.reduceMul, refE_val, refE_sz, outE_val, outE_sz, txE_val, txE_sz, ruleE_val, ruleE_sz, *]))
      try rw [hq.out]
      try rfl
    | false =>
      repeat' (first | (refine AWp.quiet (id := 4) (by kernel_rfl) (by kernel_rfl) ?_) | (refine KT.run _ ?_) | (refine AWp.seqH fun KC => ?_) | (refine AWp.block ?_) | (refine AWp.region ?_) | (refine AWp.skip ?_) | (refine AWp.condB ?_) | (simp only [bse, wk, tys, storeH_ptr, Nat.reduceEqDiff, ↓reduceIte, reduceCtorEq, Nat.reduceAdd, Nat.reduceLeDiff, Int.reduceBEq, Int.reduceLT, Int.reduceLE, Int.reduceEq, ne_eq, not_false_eq_true, Nat.reduceMul, refE_val, refE_sz, outE_val, outE_sz, txE_val, txE_sz, ruleE_val, ruleE_sz, *]))
      refine hJ.out _ _ ⟨xs.length - (k + 1), by omega, k + 1, _, by omega, rfl, rfl, rfl, fun j hj hjk => ?_⟩ (by repeat (first | exact Agree.refl _ _ | assumption | refine Agree.put ?_ rfl _))
      by_cases e : j = k
      · subst e; exact hcc
      · exact hno.out j hj (by omega)
  · have hlt' : ¬ (k : Int) < (xs.length : Int) := by omega
    have hq : Hid _ := any_none (fun x => x.tx == t.tx && x.at' == t.at') xs (fun j hj => hno.out j hj (by omega))
    repeat' (first | (refine KT.run _ ?_) | (refine AWp.seqH fun KC => ?_) | (refine AWp.region ?_) | (refine AWp.ret ?_) | (refine AWp.exit ?_) | (refine AWp.condB ?_) | (simp only [bse, wk, tys, storeH_ptr, Nat.reduceEqDiff, ↓reduceIte, reduceCtorEq, Nat.reduceAdd, Nat.reduceLeDiff, Int.reduceBEq, Int.reduceLT, Int.reduceLE, Int.reduceEq, ne_eq, not_false_eq_true, Nat.reduceMul, refE_val, refE_sz, outE_val, outE_sz, txE_val, txE_sz, ruleE_val, ruleE_sz, *]))
    try rw [hq.out]
    try rfl
theorem any_swapR (pre : List TRef) (t : TRef) : (pre.any fun y => y.tx == t.tx && y.at' == t.at') = pre.any fun y => t.tx == y.tx && t.at' == y.at' := by
  congr 1
  funext y
  rw [Bool.beq_comm, Bool.beq_comm (a := y.at')]
theorem spec_l3Outs (t : TTx) (m : Int) (h0 : t.outs.length ≠ 0) (h2 : t.outs.length ≤ 1048576) (h3 : ∀ x ∈ t.outs, x.rule.keys.length ≤ 1000000) :
    PCalls Tryz.prog 100 [ip [.int .i64 t.kind, .int .i64 m, islE refE t.ins, islE outE t.outs]] (.int .i64 (scanK outF (txEnd t) [] t.outs)) := by
  obtain ⟨tl, e⟩ := out0 t.outs h0
  have hi0 : ∀ H : AH, idxV Tryz.prog H 43 (islE outE t.outs) (.int .i64 0) = some (ip (.int .i64 (val0 t.outs) :: tl)) := fun H => by
    have := idxV_isl (P := Tryz.prog) (H := H) (n := t.outs.length) (k := 0) (kd := .i64) (cs := outE.flat t.outs) elZ43 (by omega)
    rw [e] at this
    simpa [islE, e] using this
  clear e
  refine PCalls.flat rfl ?_; refine ACalls.enter (n := 50) (rs := [.tmp 2]) Tryz.func100 rfl rfl rfl (by kernel_rfl) (by kernel_rfl) (by kernel_rfl) (Nat.le_of_ble_eq_true rfl) ?_
  repeat' (first | (refine KT.run _ ?_) | (refine AWp.seqH fun KC => ?_) | (refine AWp.block ?_) | (refine AWp.region ?_) | (simp only [bse, wk, tys, storeH_ptr, Nat.reduceEqDiff, ↓reduceIte, reduceCtorEq, Nat.reduceAdd, Nat.reduceLeDiff, Int.reduceBEq, Int.reduceLT, Int.reduceLE, Int.reduceEq, ne_eq, not_false_eq_true, Nat.reduceMul, refE_val, refE_sz, outE_val, outE_sz, txE_val, txE_sz, ruleE_val, ruleE_sz, *]))
  have hV0 : Hid (scanK outF (txEnd t) [] t.outs = scanK (outF) (txEnd t) [] t.outs) := by rfl
  refine AWp.loopH [5, 6, 7, 8, 9, 10, 11, 14, 15, 16, 17, 18, 19, 20, 21, 22, 23, 2, 24, 25, 26, 27, 28, 29, 30, 31, 4, 32, 33, 34, 12, 13, 3] (fun m e' H' => ∃ (k : Nat) (G : AH), k ≤ t.outs.length ∧ m = t.outs.length - k ∧ e' 3 = .int .i64 k ∧ H' = G ∧ Hid (scanK outF (txEnd t) [] t.outs = scanK (outF) (txEnd t) (t.outs.take k) (t.outs.drop k))) t.outs.length ⟨0, [], by omega, by omega, rfl, rfl, hV0⟩ ?_
  rintro m e' H' hA0 ⟨k, G, hk, rfl, hix, rfl, hF⟩ hJ
  have hA := hA0
  have a0 := hA 0 rfl; try simp only [bse, wk, tys, storeH_ptr, Nat.reduceEqDiff, ↓reduceIte, reduceCtorEq, Nat.reduceAdd, Nat.reduceLeDiff, Int.reduceBEq, Int.reduceLT, Int.reduceLE, Int.reduceEq, ne_eq, not_false_eq_true, Nat.reduceMul] at a0; clear hA
  by_cases hlt : k < t.outs.length
  · have hlt' : (k : Int) < (t.outs.length : Int) := by omega
    have hw := wr_succ (k := k) (by omega)
    have hs : Hid _ := hF.out.trans (scanK_step (outF) (txEnd t) t.outs k hlt)
    have hq := (spec_l2Fault t.outs[k].rule.keys t.outs[k].rule.need t.outs[k].rule.after (by have := h3 _ (List.getElem_mem hlt); omega)).more (outE.flat (t.outs.drop (k + 1)))
    simp only [List.cons_append, List.nil_append] at hq
    all_goals repeat' (first | (refine ACalls.start ?_; first | (refine ACalls.ofJi (spec_l1In _ _ _) rfl ?_) | (refine ACalls.ofJi (hq) rfl ?_)) | (refine KV.run _ ?_) | (refine KT.run _ ?_) | (refine AWp.seqH fun KC => ?_) | (refine AWp.block ?_) | (refine AWp.region ?_) | (refine AWp.ret ?_) | (refine AWp.skip ?_) | (refine aops_callH rfl fun kC => ?_) | (refine AWp.condB ?_) | (simp only [bse, wk, tys, storeH_ptr, Nat.reduceEqDiff, ↓reduceIte, reduceCtorEq, Nat.reduceAdd, Nat.reduceLeDiff, Int.reduceBEq, Int.reduceLT, Int.reduceLE, Int.reduceEq, ne_eq, not_false_eq_true, Nat.reduceMul, refE_val, refE_sz, outE_val, outE_sz, txE_val, txE_sz, ruleE_val, ruleE_sz, *]) | (refine condK_bool (fun hb => ?_) (fun hb => ?_) <;> ((try simp only [Bool.not_eq_true', Bool.not_eq_false'] at hb) <;> (try (have hbe := of_decide_eq_true hb)) <;> (try (have hbe := eq_of_beq hb)))))
    all_goals first
      | (refine hJ.out _ _ ⟨t.outs.length - (k + 1), by omega, k + 1, _, by omega, rfl, rfl, rfl, ?_⟩ (by repeat (first | exact Agree.refl _ _ | assumption | refine Agree.put ?_ rfl _)); unfold Hid; rw [hs.out]; (first | rfl | (simp only [outF, outFault, bse, wk, tys, storeH_ptr, Nat.reduceEqDiff, ↓reduceIte, reduceCtorEq, Nat.reduceAdd, Nat.reduceLeDiff, Int.reduceBEq, Int.reduceLT, Int.reduceLE, Int.reduceEq, ne_eq, not_false_eq_true, Nat.reduceMul, refE_val, refE_sz, outE_val, outE_sz, txE_val, txE_sz, ruleE_val, ruleE_sz, if_true, if_false, ite_true, ite_false, Bool.false_eq_true, *]; done) | (simp [outF, outFault, *]; done) | (simp_all [outF, outFault]; done) | (simp_all [outF, outFault]; (repeat' split) <;> first | rfl | omega)))
      | (rw [hs.out]; (first | rfl | (simp only [outF, outFault, bse, wk, tys, storeH_ptr, Nat.reduceEqDiff, ↓reduceIte, reduceCtorEq, Nat.reduceAdd, Nat.reduceLeDiff, Int.reduceBEq, Int.reduceLT, Int.reduceLE, Int.reduceEq, ne_eq, not_false_eq_true, Nat.reduceMul, refE_val, refE_sz, outE_val, outE_sz, txE_val, txE_sz, ruleE_val, ruleE_sz, if_true, if_false, ite_true, ite_false, Bool.false_eq_true, *]; done) | (simp [outF, outFault, *]; done) | (simp_all [outF, outFault]; done) | (simp_all [outF, outFault]; (repeat' split) <;> first | rfl | omega)))
  · have hlt' : ¬ (k : Int) < (t.outs.length : Int) := by omega
    have hs : Hid _ := hF.out.trans (scanK_end (outF) (txEnd t) t.outs k hlt)
    clear hF
    repeat' (first | (refine KT.run _ ?_) | (refine AWp.seqH fun KC => ?_) | (refine AWp.region ?_) | (refine AWp.ret ?_) | (refine AWp.skip ?_) | (refine AWp.exit ?_) | (refine AWp.condB ?_) | (simp only [bse, wk, tys, storeH_ptr, Nat.reduceEqDiff, ↓reduceIte, reduceCtorEq, Nat.reduceAdd, Nat.reduceLeDiff, Int.reduceBEq, Int.reduceLT, Int.reduceLE, Int.reduceEq, ne_eq, not_false_eq_true, Nat.reduceMul, refE_val, refE_sz, outE_val, outE_sz, txE_val, txE_sz, ruleE_val, ruleE_sz, *]) | (refine condK_bool (fun hb => ?_) (fun hb => ?_) <;> ((try simp only [Bool.not_eq_true', Bool.not_eq_false'] at hb) <;> (try (have hbe := of_decide_eq_true hb)) <;> (try (have hbe := eq_of_beq hb)))) | (refine aops_partB ?_))
    all_goals (rw [hs.out]; (first | rfl | (simp only [txEnd, bse, wk, tys, storeH_ptr, Nat.reduceEqDiff, ↓reduceIte, reduceCtorEq, Nat.reduceAdd, Nat.reduceLeDiff, Int.reduceBEq, Int.reduceLT, Int.reduceLE, Int.reduceEq, ne_eq, not_false_eq_true, Nat.reduceMul, refE_val, refE_sz, outE_val, outE_sz, txE_val, txE_sz, ruleE_val, ruleE_sz, if_true, if_false, ite_true, ite_false, Bool.false_eq_true, *]; done) | (simp [txEnd, *]; done) | (simp_all [txEnd]; done) | (simp_all [txEnd]; (repeat' split) <;> first | rfl | omega)))
theorem spec_l3Fault (t : TTx) (h1 : t.ins.length ≤ 1048576) (h2 : t.outs.length ≤ 1048576) (h3 : ∀ x ∈ t.outs, x.rule.keys.length ≤ 1000000) :
    PCalls Tryz.prog 81 [ip [.int .i64 t.kind, .int .i64 t.member, islE refE t.ins, islE outE t.outs]] (.int .i64 (txFault t)) := by
  have hout := fun h0 (m : Int) => spec_l3Outs t m h0 h2 h3
  refine PCalls.flat rfl ?_; refine ACalls.enter (n := 86) (rs := [.tmp 2]) Tryz.func81 rfl rfl rfl (by kernel_rfl) (by kernel_rfl) (by kernel_rfl) (Nat.le_of_ble_eq_true rfl) ?_
  repeat' (first | (refine AWp.quiet (id := 1) (by kernel_rfl) (by kernel_rfl) ?_) | (refine ACalls.start ?_; first | (refine ACalls.ofJi (spec_l1In _ _ _) rfl ?_) | (refine ACalls.ofJi (spec_l1Key _) rfl ?_)) | (refine qcall_start ?_; first | (refine qcallFi (spec_l1In _ _ _) rfl ?_ ?_; (focus ((first | exact rfl | (simp [pureV, flatV, refE_val, refE_sz, outE_val, outE_sz, txE_val, txE_sz, ruleE_val, ruleE_sz]; done)))))) | (refine KV.run _ ?_) | (refine KQ.run _ ?_) | (refine KT.run _ ?_) | (refine AWp.seqH fun KC => ?_) | (refine AWp.block ?_) | (refine AWp.region ?_) | (refine AWp.ret ?_) | (refine AWp.skip ?_) | (refine aops_callH rfl fun kC => ?_) | (refine qops_callH rfl fun kC => ?_) | (refine AWp.condB ?_) | (simp only [bse, wk, tys, storeH_ptr, Nat.reduceEqDiff, ↓reduceIte, reduceCtorEq, Nat.reduceAdd, Nat.reduceLeDiff, Int.reduceBEq, Int.reduceLT, Int.reduceLE, Int.reduceEq, ne_eq, not_false_eq_true, Nat.reduceMul, refE_val, refE_sz, outE_val, outE_sz, txE_val, txE_sz, ruleE_val, ruleE_sz, *]) | (refine condK_bool (fun hb => ?_) (fun hb => ?_) <;> ((try simp only [Bool.not_eq_true', Bool.not_eq_false'] at hb) <;> (try (have hbe := of_decide_eq_true hb)) <;> (try (have hbe := eq_of_beq hb)))) | (refine aops_partB ?_) | (refine qops_partB ?_))
  all_goals try (first | rfl | (simp only [txFault, bse, wk, tys, storeH_ptr, Nat.reduceEqDiff, ↓reduceIte, reduceCtorEq, Nat.reduceAdd, Nat.reduceLeDiff, Int.reduceBEq, Int.reduceLT, Int.reduceLE, Int.reduceEq, ne_eq, not_false_eq_true, Nat.reduceMul, refE_val, refE_sz, outE_val, outE_sz, txE_val, txE_sz, ruleE_val, ruleE_sz, if_true, if_false, ite_true, ite_false, Bool.false_eq_true, *]; done) | (simp [txFault, *]; done) | (simp_all [txFault]; done) | (simp_all [txFault]; (repeat' split) <;> first | rfl | omega))
  all_goals
    have hV0 : Hid (txFault t = scanK (refF) (scanK outF (txEnd t) [] t.outs) [] t.ins) := by unfold Hid; (first | rfl | (simp only [txFault, bse, wk, tys, storeH_ptr, Nat.reduceEqDiff, ↓reduceIte, reduceCtorEq, Nat.reduceAdd, Nat.reduceLeDiff, Int.reduceBEq, Int.reduceLT, Int.reduceLE, Int.reduceEq, ne_eq, not_false_eq_true, Nat.reduceMul, refE_val, refE_sz, outE_val, outE_sz, txE_val, txE_sz, ruleE_val, ruleE_sz, if_true, if_false, ite_true, ite_false, Bool.false_eq_true, *]; done) | (simp [txFault, *]; done) | (simp_all [txFault]; done) | (simp_all [txFault]; (repeat' split) <;> first | rfl | omega))
    refine AWp.loopH [52, 53, 54, 55, 56, 57, 58, 61, 62, 63, 64, 65, 66, 67, 68, 69, 2, 70, 71, 72, 73, 74, 75, 76, 77, 78, 79, 80, 81, 82, 83, 59, 60, 3] (fun m e' H' => ∃ (k : Nat) (G : AH), k ≤ t.ins.length ∧ m = t.ins.length - k ∧ e' 3 = .int .i64 k ∧ H' = G ∧ Hid (txFault t = scanK (refF) (scanK outF (txEnd t) [] t.outs) (t.ins.take k) (t.ins.drop k))) t.ins.length ⟨0, [], by omega, by omega, rfl, rfl, hV0⟩ ?_
    rintro m e' H' hA0 ⟨k, G, hk, rfl, hix, rfl, hF⟩ hJ
    have hA := hA0
    have a0 := hA 0 rfl; try simp only [bse, wk, tys, storeH_ptr, Nat.reduceEqDiff, ↓reduceIte, reduceCtorEq, Nat.reduceAdd, Nat.reduceLeDiff, Int.reduceBEq, Int.reduceLT, Int.reduceLE, Int.reduceEq, ne_eq, not_false_eq_true, Nat.reduceMul] at a0; clear hA
    by_cases hlt : k < t.ins.length
    · have hlt' : (k : Int) < (t.ins.length : Int) := by omega
      have hw := wr_succ (k := k) (by omega)
      have hs : Hid _ := hF.out.trans (scanK_step (refF) (scanK outF (txEnd t) [] t.outs) t.ins k hlt)
      repeat' (first | (refine AWp.quiet (id := 12) (by kernel_rfl) (by kernel_rfl) ?_) | (refine ACalls.start ?_; first | (refine ACalls.ofJi (spec_l3Ref _) rfl ?_)) | (refine qcall_start ?_; first | (refine qcallFi (spec_l3Among (t.ins.take k) t.ins[k] (by simp; omega)) rfl ?_ ?_; (focus ((first | exact rfl | (simp [pureV, flatV, refE_val, refE_sz, outE_val, outE_sz, txE_val, txE_sz, ruleE_val, ruleE_sz]; done)))))) | (refine KV.run _ ?_) | (refine KQ.run _ ?_) | (refine KT.run _ ?_) | (refine AWp.seqH fun KC => ?_) | (refine AWp.block ?_) | (refine AWp.region ?_) | (refine AWp.ret ?_) | (refine AWp.skip ?_) | (refine aops_callH rfl fun kC => ?_) | (refine qops_callH rfl fun kC => ?_) | (refine AWp.condB ?_) | (simp only [bse, wk, tys, storeH_ptr, Nat.reduceEqDiff, ↓reduceIte, reduceCtorEq, Nat.reduceAdd, Nat.reduceLeDiff, Int.reduceBEq, Int.reduceLT, Int.reduceLE, Int.reduceEq, ne_eq, not_false_eq_true, Nat.reduceMul, refE_val, refE_sz, outE_val, outE_sz, txE_val, txE_sz, ruleE_val, ruleE_sz, *]) | (refine condK_bool (fun hb => ?_) (fun hb => ?_) <;> ((try simp only [Bool.not_eq_true', Bool.not_eq_false'] at hb) <;> (try (have hbe := of_decide_eq_true hb)) <;> (try (have hbe := eq_of_beq hb)))))
      all_goals first
        | (refine hJ.out _ _ ⟨t.ins.length - (k + 1), by omega, k + 1, _, by omega, rfl, rfl, rfl, ?_⟩ (by repeat (first | exact Agree.refl _ _ | assumption | refine Agree.put ?_ rfl _)); unfold Hid; rw [hs.out]; (first | rfl | (simp only [refF, ← any_swapR, bse, wk, tys, storeH_ptr, Nat.reduceEqDiff, ↓reduceIte, reduceCtorEq, Nat.reduceAdd, Nat.reduceLeDiff, Int.reduceBEq, Int.reduceLT, Int.reduceLE, Int.reduceEq, ne_eq, not_false_eq_true, Nat.reduceMul, refE_val, refE_sz, outE_val, outE_sz, txE_val, txE_sz, ruleE_val, ruleE_sz, if_true, if_false, ite_true, ite_false, Bool.false_eq_true, *]; done) | (simp [refF, ← any_swapR, *]; done) | (simp_all [refF, ← any_swapR]; done) | (simp_all [refF, ← any_swapR]; (repeat' split) <;> first | rfl | omega)))
        | (rw [hs.out]; (first | rfl | (simp only [refF, ← any_swapR, bse, wk, tys, storeH_ptr, Nat.reduceEqDiff, ↓reduceIte, reduceCtorEq, Nat.reduceAdd, Nat.reduceLeDiff, Int.reduceBEq, Int.reduceLT, Int.reduceLE, Int.reduceEq, ne_eq, not_false_eq_true, Nat.reduceMul, refE_val, refE_sz, outE_val, outE_sz, txE_val, txE_sz, ruleE_val, ruleE_sz, if_true, if_false, ite_true, ite_false, Bool.false_eq_true, *]; done) | (simp [refF, ← any_swapR, *]; done) | (simp_all [refF, ← any_swapR]; done) | (simp_all [refF, ← any_swapR]; (repeat' split) <;> first | rfl | omega)))
    · have hlt' : ¬ (k : Int) < (t.ins.length : Int) := by omega
      have hs : Hid _ := hF.out.trans (scanK_end (refF) (scanK outF (txEnd t) [] t.outs) t.ins k hlt)
      clear hF
      have ho : t.outs.length ≠ 0 := by
        intro e
        have hq : inB (t.outs.length : Int) 1 4 = false := by rw [e]; rfl
        simp_all
      have hou := hout ho
      clear hout
      repeat' (first | (refine ACalls.start ?_; first | (refine ACalls.ofJi (hou _) rfl ?_)) | (refine KV.run _ ?_) | (refine KT.run _ ?_) | (refine AWp.seqH fun KC => ?_) | (refine AWp.region ?_) | (refine AWp.ret ?_) | (refine AWp.exit ?_) | (refine aops_callH rfl fun kC => ?_) | (refine AWp.condB ?_) | (simp only [bse, wk, tys, storeH_ptr, Nat.reduceEqDiff, ↓reduceIte, reduceCtorEq, Nat.reduceAdd, Nat.reduceLeDiff, Int.reduceBEq, Int.reduceLT, Int.reduceLE, Int.reduceEq, ne_eq, not_false_eq_true, Nat.reduceMul, refE_val, refE_sz, outE_val, outE_sz, txE_val, txE_sz, ruleE_val, ruleE_sz, *]))
      all_goals rw [hs.out]
end Go.BM
/- The text of a transaction: the program. -/
set_option linter.unusedVariables false
set_option linter.unusedSimpArgs false
set_option maxRecDepth 100000
set_option maxHeartbeats 4000000
namespace Go.BM
open Go.Proofs Go.RowKit
attribute [local irreducible] ACalls AWp aops qops optK optP cK gateA condK mops qcallK PCalls loadV fldV idxV lenV slV storeH binS
def refS (r : TRef) : ByteArray := bs (refT r)
def outS (x : TOut) : ByteArray := bs (outT x)
theorem impl_kindWords (H : AH) : ACalls Tryz.prog H.length 83 [] H fun d H' => d = .slice (some ⟨H.length, 0, none⟩) 3 0 ∧ H' = H ++ [⟨9, 1, [.string ⟨#[112, 97, 121]⟩, .string ⟨#[106, 111, 105, 110]⟩, .string ⟨#[108, 101, 97, 118, 101]⟩], 0, true⟩] := by
  refine ACalls.enter (n := 2) (rs := [.tmp 0]) Tryz.func83 rfl rfl rfl (by kernel_rfl) (by kernel_rfl) (by kernel_rfl) (Nat.le_of_ble_eq_true rfl) ?_
  repeat' (first | (refine KT.run _ ?_) | (refine AWp.seqH fun KC => ?_) | (refine AWp.region ?_) | (refine AWp.ret ?_) | (simp only [bse, wk, tys, storeH_ptr, Nat.reduceEqDiff, ↓reduceIte, reduceCtorEq, Nat.reduceAdd, Nat.reduceLeDiff, Int.reduceBEq, Int.reduceLT, Int.reduceLE, Int.reduceEq, ne_eq, not_false_eq_true, Nat.reduceMul, refE_val, refE_sz, outE_val, outE_sz, txE_val, txE_sz, ruleE_val, ruleE_sz, *]))
  all_goals first | exact ⟨rfl, rfl⟩ | skip
theorem txText0 (member : Int) (ins : List TRef) (outs : List TOut) (h0 : txFault ⟨0, member, ins, outs⟩ = 0) (T : List UInt8) (hT : T = txT ⟨0, member, ins, outs⟩) :
    PCalls Tryz.prog 87 [txE.val ⟨0, member, ins, outs⟩] (.tuple #[.string (if 300 < T.length then bs [] else bs T), .int .i64 (if 300 < T.length then 2 else 0)]) := by
  obtain ⟨_, hkm, hm, hi, ho, hI, hO⟩ := tx_bounds h0
  dsimp only at *
  clear h0
  have hm0 : member = 0 := by omega
  subst hm0
  have hIr : ∀ x ∈ ins, (refT x).length ≤ 15 := fun x hx => by
    have := hI x hx; have q1 := itoa_len7 (x := x.tx) (by omega) (by omega); have q2 := itoa_len7 (x := x.at') (by omega) (by omega); unfold refT; simp; omega
  have hOr : ∀ x ∈ outs, (outT x).length ≤ 48 := fun x hx => by
    have := hO x hx; have q1 := itoa_len7 (x := x.value) (by omega) (by omega); have q2 := ruleT_len 95 this.2; unfold outT; simp; omega
  have hj1 := lib_JoinL (ins.map refT) 43 15 (fun w hw => by obtain ⟨x, hx, rfl⟩ := List.mem_map.1 hw; exact hIr x hx) (by rw [List.length_map]; omega)
  have hR1 := join_lenN 43 15 (ins.map refT) (fun w hw => by obtain ⟨x, hx, rfl⟩ := List.mem_map.1 hw; exact hIr x hx)
  rw [List.length_map] at hR1
  obtain ⟨R1, hR1e⟩ : ∃ R1, R1 = Lib.join (ins.map refT) [43] := ⟨_, rfl⟩
  have hTe : T = Lib.join ([([112, 97, 121] : List UInt8)] ++ [] ++ [R1] ++ outs.map outT) [32] := by rw [hT, hR1e]; rfl
  rw [← hR1e] at hj1 hR1
  have hj2 := lib_JoinL ([([112, 97, 121] : List UInt8)] ++ [] ++ [R1] ++ outs.map outT) 32 64 (fun w hw => by
    simp only [List.mem_append, List.mem_cons, List.not_mem_nil, or_false, false_or, List.mem_map] at hw
    rcases hw with (rfl | rfl) | ⟨x, hx, rfl⟩
    · simp
    · omega
    · have := hOr x hx; omega) (by simp; omega)
  rw [← hTe] at hj2
  clear hT hTe hR1e hkm
  have hmp : ([([112, 97, 121] : List UInt8)] ++ [] ++ [R1] ++ outs.map outT).map bs = [bs [112, 97, 121], bs R1] ++ outs.map outS := by simp [outS, List.map_map, Function.comp_def]
  rw [hmp] at hj2
  have hmp1 : (ins.map refT).map bs = ins.map refS := by rw [List.map_map]; rfl
  rw [hmp1] at hj1
  clear hmp hmp1
  obtain ⟨rs, hrs⟩ : ∃ rs : Bool, rs = decide (300 < T.length) := ⟨_, rfl⟩
  have g3 : (0 : Int) < ((3 : Nat) : Int) := by decide
  have g4 : Int.toNat 0 = 0 := rfl
  refine PCalls.val (by first | exact islE_im _ _ | exact Enc.val_im _ _ | exact Im.flat _ rfl | (repeat' (first | exact Im.nilL | refine Im.consL ?_ ?_ | exact Im.flat _ rfl | exact islE_im _ _ | exact Enc.val_im _ _ | refine Im.aggL ?_ | refine Im.tupleL ?_ | refine Im.isl ?_))) ?_; refine ACalls.enter (n := 76) (rs := [.tmp 2, .tmp 3]) Tryz.func87 rfl rfl rfl (by kernel_rfl) (by kernel_rfl) (by kernel_rfl) (Nat.le_of_ble_eq_true rfl) ?_
  repeat' (first | (refine AWp.mixed (id := 1) [(1, 0), (2, 0), (0, 1), (3, 0), (4, 0), (5, 1), (6, 0)] (by kernel_rfl) (by kernel_rfl) ?_) | (refine ACalls.start ?_; first | (refine ACalls.get (impl_kindWords _) (by first | exact Nat.le_refl _ | exact Nat.zero_le _ | (simp only [List.length_append, List.length_cons, List.length_nil]; omega) | (simp only [List.length_set]; omega) | omega) (by first | exact Nat.le_refl _ | exact Nat.zero_le _ | (simp only [List.length_append, List.length_cons, List.length_nil]; omega) | (simp only [List.length_set]; omega) | omega) ?_; rintro _ _ ⟨rfl, rfl⟩)) | (refine KV.run _ ?_) | (refine KT.run _ ?_) | (refine AWp.seqH fun KC => ?_) | (refine AWp.block ?_) | (refine AWp.region ?_) | (refine mops_step0 rfl rfl fun KC => ?_) | (refine mops_step1 rfl fun KC => ?_) | (refine AWp.skip ?_) | (refine aops_callH rfl fun kC => ?_) | (refine AWp.condB ?_) | (simp only [bse, wk, tys, storeH_ptr, Nat.reduceEqDiff, ↓reduceIte, reduceCtorEq, Nat.reduceAdd, Nat.reduceLeDiff, Int.reduceBEq, Int.reduceLT, Int.reduceLE, Int.reduceEq, ne_eq, not_false_eq_true, Nat.reduceMul, refE_val, refE_sz, outE_val, outE_sz, txE_val, txE_sz, ruleE_val, ruleE_sz, *]))
  clear g3 g4
  refine AWp.loopH [31, 32, 33, 7, 34, 35, 36, 37, 38, 39, 40, 41, 42, 43, 44, 5, 45, 30] (fun m e' H' => ∃ (k ver : Nat) (G : AH), k ≤ ins.length ∧ m = ins.length - k ∧ e' 30 = .int .i64 k ∧ e' 5 = .slice (some ⟨3, 0, none⟩) k ver ∧ H' = ⟨45, 0, [.int .i64 0, .int .i64 0, islE refE ins, islE outE outs], 0, true⟩ :: ⟨9, 1, [.string ⟨#[112, 97, 121]⟩, .string ⟨#[106, 111, 105, 110]⟩, .string ⟨#[108, 101, 97, 118, 101]⟩], 0, true⟩ :: ⟨9, 1, [.string ⟨#[112, 97, 121]⟩], 0, true⟩ :: ⟨9, 1, strE.flat ((ins.take k).map refS), ver, true⟩ :: G) ins.length ⟨0, 0, _, by omega, by omega, rfl, rfl, rfl⟩ ?_
  rintro m e' H' hA ⟨k, ver, G, hk, rfl, e30, e5, rfl⟩ hJ
  have a1 := hA 1 rfl; have a2 := hA 2 rfl; have a3 := hA 3 rfl; have a4 := hA 4 rfl; have a28 := hA 28 rfl; have a29 := hA 29 rfl; try simp only [bse, wk, tys, storeH_ptr, Nat.reduceEqDiff, ↓reduceIte, reduceCtorEq, Nat.reduceAdd, Nat.reduceLeDiff, Int.reduceBEq, Int.reduceLT, Int.reduceLE, Int.reduceEq, ne_eq, not_false_eq_true, Nat.reduceMul] at a1 a2 a3 a4 a28 a29; clear hA
  by_cases hlt : k < ins.length
  · have hlt' : (k : Int) < (ins.length : Int) := by omega
    have hw := wr_succ (k := k) (by omega)
    have hx := hI ins[k] (List.getElem_mem hlt)
    have hkl : ((ins.take k).map refS).length = k := by rw [List.length_map, List.length_take]; omega
    have hap := appendH_one (P := Tryz.prog) (B := 0) (E := strE) (H0 := ⟨45, 0, [.int .i64 0, .int .i64 0, islE refE ins, islE outE outs], 0, true⟩ :: ⟨9, 1, [.string ⟨#[112, 97, 121]⟩, .string ⟨#[106, 111, 105, 110]⟩, .string ⟨#[108, 101, 97, 118, 101]⟩], 0, true⟩ :: ⟨9, 1, [.string ⟨#[112, 97, 121]⟩], 0, true⟩ :: ⟨9, 1, strE.flat ((ins.take k).map refS), ver, true⟩ :: (G ++ [⟨128, 0, [.int .i64 ins[k].tx, .int .i64 ins[k].at'], 0, true⟩])) (ys := (ins.take k).map refS) (refS ins[k]) elZ22 elZ22 zOk22 (r := 3) rfl (Nat.zero_le _) (by omega) (by omega)
    rw [hkl, ← map_step refS ins k hlt] at hap
    simp only [List.cons_append, List.length_cons, List.set_cons_succ, List.set_cons_zero, strE_sz, strE_val, cells_str, refS, List.length_append, List.length_nil, Nat.zero_add, List.append_assoc, List.nil_append] at hap
    have hd1 : PCalls Tryz.prog 93 [.int .i64 ins[k].tx] (.string (bs (Lib.itoa ins[k].tx))) := lib_dec _ (by omega) (by omega)
    have hd2 : PCalls Tryz.prog 93 [.int .i64 ins[k].at'] (.string (bs (Lib.itoa ins[k].at'))) := lib_dec _ (by omega) (by omega)
    have q1 := itoa_len7 (x := ins[k].tx) (by omega) (by omega)
    have q2 := itoa_len7 (x := ins[k].at') (by omega) (by omega)
    have a1 : ∀ xo yo, binS Tryz.prog .add 9 xo yo (.string (bs (Lib.itoa ins[k].tx))) (.string ⟨#[58]⟩) = some (.string (bs (Lib.itoa ins[k].tx ++ [58]))) := fun xo yo => bin_sadd _ _ _ (Lib.itoa ins[k].tx) [58] (by simp; omega)
    have a2 : ∀ xo yo, binS Tryz.prog .add 9 xo yo (.string (bs (Lib.itoa ins[k].tx ++ [58]))) (.string (bs (Lib.itoa ins[k].at'))) = some (.string (bs (refT ins[k]))) := fun xo yo => bin_sadd _ _ _ (Lib.itoa ins[k].tx ++ [58]) (Lib.itoa ins[k].at') (by simp; omega)
    clear hkl hI hO hIr hOr hj1 hj2 hx q1 q2
    repeat' (first | (refine KT.run _ ?_) | (refine AWp.seqH fun KC => ?_) | (refine AWp.block ?_) | (refine AWp.region ?_) | (refine AWp.skip ?_) | (refine AWp.condB ?_) | (simp only [bse, wk, tys, storeH_ptr, Nat.reduceEqDiff, ↓reduceIte, reduceCtorEq, Nat.reduceAdd, Nat.reduceLeDiff, Int.reduceBEq, Int.reduceLT, Int.reduceLE, Int.reduceEq, ne_eq, not_false_eq_true, Nat.reduceMul, refE_val, refE_sz, outE_val, outE_sz, txE_val, txE_sz, ruleE_val, ruleE_sz, *]))
    refine AWp.mixedT (id := 8) (.cons 0 0 (.cons 1 0 (.cons 2 0 (.cons 5 0 (.cons 6 0 (.cons 3 1 (.cons 4 0 (.cons 7 1 (.cons 8 0 (.cons 9 1 (.cons 10 2 (.cons 11 0 .nil)))))))))))) (by kernel_rfl) (by kernel_rfl) ?_
    refine mopsT_abs fun e0 he0 => ?_
    have r5 := congrFun he0 5
    have r7 := congrFun he0 7
    try simp only [bse, wk, tys, storeH_ptr, Nat.reduceEqDiff, ↓reduceIte, reduceCtorEq, Nat.reduceAdd, Nat.reduceLeDiff, Int.reduceBEq, Int.reduceLT, Int.reduceLE, Int.reduceEq, ne_eq, not_false_eq_true, Nat.reduceMul, refE_val, refE_sz, outE_val, outE_sz, txE_val, txE_sz, ruleE_val, ruleE_sz] at r5 r7
    have he1 : Hid _ := he0
    clear he0
    apply mopsT_cut
    case h1 =>
      repeat' (first | (refine mopsT_step0 rfl rfl fun KC => ?_) | (refine mopsT_step1 rfl fun KC => ?_) | (refine mopsT_step2 rfl fun KC => ?_) | (refine ACalls.start ?_; first | (refine ACalls.ofJi (hd1) rfl ?_) | (refine ACalls.ofJi (hd2) rfl ?_)) | (refine KV.run _ ?_) | (refine KT.run _ ?_) | (refine aops_callH rfl fun kC => ?_) | (simp only [bse, wk, tys, storeH_ptr, Nat.reduceEqDiff, ↓reduceIte, reduceCtorEq, Nat.reduceAdd, Nat.reduceLeDiff, Int.reduceBEq, Int.reduceLT, Int.reduceLE, Int.reduceEq, ne_eq, not_false_eq_true, Nat.reduceMul, refE_val, refE_sz, outE_val, outE_sz, txE_val, txE_sz, ruleE_val, ruleE_sz, *]))
      all_goals (first | exact ⟨rfl, rfl⟩ | (refine AtEH.mk (funext fun q => ?_) rfl; simp only [put, if_false]))
    have he2 := he1.out
    clear he1
    subst he2
    repeat' (first | (refine KT.run _ ?_) | (refine AWp.region ?_) | (simp only [bse, wk, tys, storeH_ptr, Nat.reduceEqDiff, ↓reduceIte, reduceCtorEq, Nat.reduceAdd, Nat.reduceLeDiff, Int.reduceBEq, Int.reduceLT, Int.reduceLE, Int.reduceEq, ne_eq, not_false_eq_true, Nat.reduceMul, refE_val, refE_sz, outE_val, outE_sz, txE_val, txE_sz, ruleE_val, ruleE_sz, *]))
    exact hJ.out _ _ ⟨ins.length - (k + 1), by omega, k + 1, ver + 1, _, by omega, rfl, rfl, by simp [put], rfl⟩ (by repeat (first | exact Agree.refl _ _ | assumption | refine Agree.put ?_ rfl _))
  · have hlt' : ¬ (k : Int) < (ins.length : Int) := by omega
    have hke : k = ins.length := by omega
    subst hke
    rw [List.take_length]
    have hb : BorL (⟨45, 0, [.int .i64 0, .int .i64 0, islE refE ins, islE outE outs], 0, true⟩ :: ⟨9, 1, [.string ⟨#[112, 97, 121]⟩, .string ⟨#[106, 111, 105, 110]⟩, .string ⟨#[108, 101, 97, 118, 101]⟩], 0, true⟩ :: ⟨9, 1, [.string ⟨#[112, 97, 121]⟩], 0, true⟩ :: ⟨9, 1, strE.flat (ins.map refS), ver, true⟩ :: G) [.slice (some ⟨3, 0, none⟩) ins.length ver, .string (bs [43])] [islE strE (ins.map refS), .string (bs [43])] :=
      .cons (Bor.sbE (E := strE) (ys := ins.map refS) rfl (fun _ => rfl) (by rw [List.length_map])) (.cons (.same _ (.flat _ rfl)) .nil)
    have hjo := fun (B : Nat) => ACalls.ofP (B := B) (k := fun d H' => d = .string (bs R1) ∧ ⟨45, 0, [.int .i64 0, .int .i64 0, islE refE ins, islE outE outs], 0, true⟩ :: ⟨9, 1, [.string ⟨#[112, 97, 121]⟩, .string ⟨#[106, 111, 105, 110]⟩, .string ⟨#[108, 101, 97, 118, 101]⟩], 0, true⟩ :: ⟨9, 1, [.string ⟨#[112, 97, 121]⟩], 0, true⟩ :: ⟨9, 1, strE.flat (ins.map refS), ver, true⟩ :: G = H') hj1 hb rfl ⟨rfl, rfl⟩
    have hap1 : appendH Tryz.prog 0 (⟨45, 0, [.int .i64 0, .int .i64 0, islE refE ins, islE outE outs], 0, true⟩ :: ⟨9, 1, [.string ⟨#[112, 97, 121]⟩, .string ⟨#[106, 111, 105, 110]⟩, .string ⟨#[108, 101, 97, 118, 101]⟩], 0, true⟩ :: ⟨9, 1, [.string ⟨#[112, 97, 121]⟩], 0, true⟩ :: ⟨9, 1, strE.flat (ins.map refS), ver, true⟩ :: (G ++ [⟨9, 1, [.string (bs R1)], 0, true⟩])) 22 22 (.slice (some ⟨2, 0, none⟩) 1 0) (.slice (some ⟨G.length + 4, 0, none⟩) 1 0) = some (.slice (some ⟨2, 0, none⟩) 2 1, ⟨45, 0, [.int .i64 0, .int .i64 0, islE refE ins, islE outE outs], 0, true⟩ :: ⟨9, 1, [.string ⟨#[112, 97, 121]⟩, .string ⟨#[106, 111, 105, 110]⟩, .string ⟨#[108, 101, 97, 118, 101]⟩], 0, true⟩ :: ⟨9, 1, [.string ⟨#[112, 97, 121]⟩, .string (bs R1)], 1, true⟩ :: ⟨9, 1, strE.flat (ins.map refS), ver, true⟩ :: (G ++ [⟨9, 1, [.string (bs R1)], 0, true⟩])) := by
      have := appendH_one (P := Tryz.prog) (B := 0) (E := strE) (H0 := ⟨45, 0, [.int .i64 0, .int .i64 0, islE refE ins, islE outE outs], 0, true⟩ :: ⟨9, 1, [.string ⟨#[112, 97, 121]⟩, .string ⟨#[106, 111, 105, 110]⟩, .string ⟨#[108, 101, 97, 118, 101]⟩], 0, true⟩ :: ⟨9, 1, [.string ⟨#[112, 97, 121]⟩], 0, true⟩ :: ⟨9, 1, strE.flat (ins.map refS), ver, true⟩ :: G) (ys := [bs [112, 97, 121]]) (bs R1) elZ22 elZ22 zOk22 (ver := 0) (r := 2) rfl (Nat.zero_le _) (by simp only [List.length_cons, List.length_nil]; decide) (by simp only [List.length_cons, List.length_nil]; decide)
      exact this
    clear hb hj1 hI hIr hR1 hlt hk
    repeat' (first | (refine ACalls.start ?_; first | (refine ACalls.get (hjo _) (by first | exact Nat.le_refl _ | exact Nat.zero_le _ | (simp only [List.length_append, List.length_cons, List.length_nil]; omega) | (simp only [List.length_set]; omega) | omega) (by first | exact Nat.le_refl _ | exact Nat.zero_le _ | (simp only [List.length_append, List.length_cons, List.length_nil]; omega) | (simp only [List.length_set]; omega) | omega) ?_; rintro _ _ ⟨rfl, rfl⟩)) | (refine KV.run _ ?_) | (refine KT.run _ ?_) | (refine AWp.seqH fun KC => ?_) | (refine AWp.block ?_) | (refine AWp.region ?_) | (refine AWp.exit ?_) | (refine aops_callH rfl fun kC => ?_) | (refine AWp.condB ?_) | (simp only [bse, wk, tys, storeH_ptr, Nat.reduceEqDiff, ↓reduceIte, reduceCtorEq, Nat.reduceAdd, Nat.reduceLeDiff, Int.reduceBEq, Int.reduceLT, Int.reduceLE, Int.reduceEq, ne_eq, not_false_eq_true, Nat.reduceMul, refE_val, refE_sz, outE_val, outE_sz, txE_val, txE_sz, ruleE_val, ruleE_sz, *]))
    clear hap1 hjo e5 e30 hlt'
    generalize ⟨9, 1, strE.flat (ins.map refS), ver, true⟩ :: (G ++ [⟨9, 1, [.string (bs R1)], 0, true⟩]) = GG
    refine AWp.loopH [55, 56, 57, 9, 58, 59, 60, 61, 62, 63, 64, 65, 66, 67, 68, 4, 69, 54] (fun m e' H' => ∃ (k ver : Nat) (G : AH), k ≤ outs.length ∧ m = outs.length - k ∧ e' 54 = .int .i64 k ∧ e' 4 = .slice (some ⟨2, 0, none⟩) (2 + k) ver ∧ H' = ⟨45, 0, [.int .i64 0, .int .i64 0, islE refE ins, islE outE outs], 0, true⟩ :: ⟨9, 1, [.string ⟨#[112, 97, 121]⟩, .string ⟨#[106, 111, 105, 110]⟩, .string ⟨#[108, 101, 97, 118, 101]⟩], 0, true⟩ :: ⟨9, 1, strE.flat ([bs [112, 97, 121], bs R1] ++ (outs.take k).map outS), ver, true⟩ :: G) outs.length ⟨0, 1, _, by omega, by omega, rfl, rfl, rfl⟩ ?_
    rintro m e' H' hA ⟨k, ver, G, hk, rfl, e54, e4, rfl⟩ hJ
    have a2 := hA 2 rfl; have a3 := hA 3 rfl; have a52 := hA 52 rfl; have a53 := hA 53 rfl; try simp only [bse, wk, tys, storeH_ptr, Nat.reduceEqDiff, ↓reduceIte, reduceCtorEq, Nat.reduceAdd, Nat.reduceLeDiff, Int.reduceBEq, Int.reduceLT, Int.reduceLE, Int.reduceEq, ne_eq, not_false_eq_true, Nat.reduceMul] at a2 a3 a52 a53; clear hA
    by_cases hlt : k < outs.length
    · have hlt' : (k : Int) < (outs.length : Int) := by omega
      have hw := wr_succ (k := k) (by omega)
      have hx := hO outs[k] (List.getElem_mem hlt)
      have hkl : ([bs [112, 97, 121], bs R1] ++ (outs.take k).map outS).length = 2 + k := by simp only [List.length_append, List.length_cons, List.length_nil, List.length_map, List.length_take]; omega
      have hap := appendH_one (P := Tryz.prog) (B := 0) (E := strE) (H0 := ⟨45, 0, [.int .i64 0, .int .i64 0, islE refE ins, islE outE outs], 0, true⟩ :: ⟨9, 1, [.string ⟨#[112, 97, 121]⟩, .string ⟨#[106, 111, 105, 110]⟩, .string ⟨#[108, 101, 97, 118, 101]⟩], 0, true⟩ :: ⟨9, 1, strE.flat ([bs [112, 97, 121], bs R1] ++ (outs.take k).map outS), ver, true⟩ :: (G ++ [⟨120, 0, [.int .i64 outs[k].value, islE intE outs[k].rule.keys, .int .i64 outs[k].rule.need, .int .i64 outs[k].rule.after], 0, true⟩])) (ys := [bs [112, 97, 121], bs R1] ++ (outs.take k).map outS) (outS outs[k]) elZ22 elZ22 zOk22 (r := 2) rfl (Nat.zero_le _) (by rw [hkl]; omega) (by rw [hkl]; omega)
      have hst : ([bs [112, 97, 121], bs R1] ++ (outs.take k).map outS) ++ [outS outs[k]] = [bs [112, 97, 121], bs R1] ++ (outs.take (k + 1)).map outS := by rw [List.append_assoc, ← map_step outS outs k hlt]
      rw [hst, hkl] at hap
      clear hst
      simp only [List.length_append, List.cons_append, List.length_cons, List.set_cons_succ, List.set_cons_zero, strE_sz, strE_val, cells_str, List.length_nil, Nat.zero_add, List.append_assoc, List.nil_append] at hap
      have hoS : Value.string (outS outs[k]) = .string (bs (outT outs[k])) := rfl
      rw [hoS] at hap
      clear hoS
      have hd1 : PCalls Tryz.prog 93 [.int .i64 outs[k].value] (.string (bs (Lib.itoa outs[k].value))) := lib_dec _ (by omega) (by omega)
      have hrt := impl_ruleText outs[k].rule 95 hx.2
      have q1 := itoa_len7 (x := outs[k].value) (by omega) (by omega)
      have q2 := ruleT_len 95 hx.2
      have a1 : ∀ xo yo, binS Tryz.prog .add 9 xo yo (.string (bs (Lib.itoa outs[k].value))) (.string ⟨#[61]⟩) = some (.string (bs (Lib.itoa outs[k].value ++ [61]))) := fun xo yo => bin_sadd _ _ _ (Lib.itoa outs[k].value) [61] (by simp; omega)
      have a2 : ∀ xo yo, binS Tryz.prog .add 9 xo yo (.string (bs (Lib.itoa outs[k].value ++ [61]))) (.string (bs (ruleT 95 outs[k].rule))) = some (.string (bs (outT outs[k]))) := fun xo yo => bin_sadd _ _ _ (Lib.itoa outs[k].value ++ [61]) (ruleT 95 outs[k].rule) (by simp; omega)
      clear hkl hO hOr hj2 hx q1 q2
      repeat' (first | (refine KT.run _ ?_) | (refine AWp.seqH fun KC => ?_) | (refine AWp.block ?_) | (refine AWp.region ?_) | (refine AWp.skip ?_) | (refine AWp.condB ?_) | (simp only [bse, wk, tys, storeH_ptr, Nat.reduceEqDiff, ↓reduceIte, reduceCtorEq, Nat.reduceAdd, Nat.reduceLeDiff, Int.reduceBEq, Int.reduceLT, Int.reduceLE, Int.reduceEq, ne_eq, not_false_eq_true, Nat.reduceMul, refE_val, refE_sz, outE_val, outE_sz, txE_val, txE_sz, ruleE_val, ruleE_sz, *]))
      refine AWp.mixedT (id := 14) (.cons 0 0 (.cons 1 0 (.cons 2 0 (.cons 5 0 (.cons 6 0 (.cons 3 1 (.cons 4 0 (.cons 7 1 (.cons 8 0 (.cons 9 1 (.cons 10 2 (.cons 11 0 .nil)))))))))))) (by kernel_rfl) (by kernel_rfl) ?_
      refine mopsT_abs fun e0 he0 => ?_
      have r4 := congrFun he0 4
      have r9 := congrFun he0 9
      try simp only [bse, wk, tys, storeH_ptr, Nat.reduceEqDiff, ↓reduceIte, reduceCtorEq, Nat.reduceAdd, Nat.reduceLeDiff, Int.reduceBEq, Int.reduceLT, Int.reduceLE, Int.reduceEq, ne_eq, not_false_eq_true, Nat.reduceMul, refE_val, refE_sz, outE_val, outE_sz, txE_val, txE_sz, ruleE_val, ruleE_sz] at r4 r9
      have he1 : Hid _ := he0
      clear he0
      apply mopsT_cut
      case h1 =>
        repeat' (first | (refine mopsT_step0 rfl rfl fun KC => ?_) | (refine mopsT_step1 rfl fun KC => ?_) | (refine mopsT_step2 rfl fun KC => ?_) | (refine ACalls.start ?_; first | (refine ACalls.ofJi (hd1) rfl ?_) | (refine ACalls.ofJi (hrt) rfl ?_)) | (refine KV.run _ ?_) | (refine KT.run _ ?_) | (refine aops_callH rfl fun kC => ?_) | (simp only [bse, wk, tys, storeH_ptr, Nat.reduceEqDiff, ↓reduceIte, reduceCtorEq, Nat.reduceAdd, Nat.reduceLeDiff, Int.reduceBEq, Int.reduceLT, Int.reduceLE, Int.reduceEq, ne_eq, not_false_eq_true, Nat.reduceMul, refE_val, refE_sz, outE_val, outE_sz, txE_val, txE_sz, ruleE_val, ruleE_sz, *]))
        all_goals (first | exact ⟨rfl, rfl⟩ | (refine AtEH.mk (funext fun q => ?_) rfl; simp only [put, if_false]))
      have he2 := he1.out
      clear he1
      subst he2
      repeat' (first | (refine KT.run _ ?_) | (refine AWp.region ?_) | (simp only [bse, wk, tys, storeH_ptr, Nat.reduceEqDiff, ↓reduceIte, reduceCtorEq, Nat.reduceAdd, Nat.reduceLeDiff, Int.reduceBEq, Int.reduceLT, Int.reduceLE, Int.reduceEq, ne_eq, not_false_eq_true, Nat.reduceMul, refE_val, refE_sz, outE_val, outE_sz, txE_val, txE_sz, ruleE_val, ruleE_sz, *]))
      exact hJ.out _ _ ⟨outs.length - (k + 1), by omega, k + 1, ver + 1, _, by omega, rfl, rfl, by simp [put]; rfl, rfl⟩ (by repeat (first | exact Agree.refl _ _ | assumption | refine Agree.put ?_ rfl _))
    · have hlt' : ¬ (k : Int) < (outs.length : Int) := by omega
      have hke : k = outs.length := by omega
      subst hke
      rw [List.take_length]
      have hb : BorL (⟨45, 0, [.int .i64 0, .int .i64 0, islE refE ins, islE outE outs], 0, true⟩ :: ⟨9, 1, [.string ⟨#[112, 97, 121]⟩, .string ⟨#[106, 111, 105, 110]⟩, .string ⟨#[108, 101, 97, 118, 101]⟩], 0, true⟩ :: ⟨9, 1, strE.flat ([bs [112, 97, 121], bs R1] ++ outs.map outS), ver, true⟩ :: G) [.slice (some ⟨2, 0, none⟩) (2 + outs.length) ver, .string (bs [32])] [islE strE ([bs [112, 97, 121], bs R1] ++ outs.map outS), .string (bs [32])] :=
        .cons (Bor.sbE (E := strE) (ys := [bs [112, 97, 121], bs R1] ++ outs.map outS) rfl (fun _ => rfl) (by simp only [List.length_append, List.length_cons, List.length_nil, List.length_map])) (.cons (.same _ (.flat _ rfl)) .nil)
      have hjo := fun (B : Nat) => ACalls.ofP (B := B) (k := fun d H' => d = .string (bs T) ∧ ⟨45, 0, [.int .i64 0, .int .i64 0, islE refE ins, islE outE outs], 0, true⟩ :: ⟨9, 1, [.string ⟨#[112, 97, 121]⟩, .string ⟨#[106, 111, 105, 110]⟩, .string ⟨#[108, 101, 97, 118, 101]⟩], 0, true⟩ :: ⟨9, 1, strE.flat ([bs [112, 97, 121], bs R1] ++ outs.map outS), ver, true⟩ :: G = H') hj2 hb rfl ⟨rfl, rfl⟩
      clear hb hj2 hO hOr hlt hk hrs rs
      by_cases h300 : 300 < T.length
      · have h3' : (300 : Int) < (T.length : Int) := by omega
        have h3H : Hid _ := h300
        clear h300
        repeat' (first | (refine ACalls.start ?_; first | (refine ACalls.get (hjo _) (by first | exact Nat.le_refl _ | exact Nat.zero_le _ | (simp only [List.length_append, List.length_cons, List.length_nil]; omega) | (simp only [List.length_set]; omega) | omega) (by first | exact Nat.le_refl _ | exact Nat.zero_le _ | (simp only [List.length_append, List.length_cons, List.length_nil]; omega) | (simp only [List.length_set]; omega) | omega) ?_; rintro _ _ ⟨rfl, rfl⟩)) | (refine KV.run _ ?_) | (refine KT.run _ ?_) | (refine AWp.seqH fun KC => ?_) | (refine AWp.region ?_) | (refine AWp.ret ?_) | (refine AWp.exit ?_) | (refine aops_callH rfl fun kC => ?_) | (refine AWp.condB ?_) | (simp only [bse, wk, tys, storeH_ptr, Nat.reduceEqDiff, ↓reduceIte, reduceCtorEq, Nat.reduceAdd, Nat.reduceLeDiff, Int.reduceBEq, Int.reduceLT, Int.reduceLE, Int.reduceEq, ne_eq, not_false_eq_true, Nat.reduceMul, refE_val, refE_sz, outE_val, outE_sz, txE_val, txE_sz, ruleE_val, ruleE_sz, *]))
        all_goals rw [if_pos h3H.out, if_pos h3H.out]
      · have h3' : ¬ (300 : Int) < (T.length : Int) := by omega
        have h3H : Hid _ := h300
        clear h300
        repeat' (first | (refine ACalls.start ?_; first | (refine ACalls.get (hjo _) (by first | exact Nat.le_refl _ | exact Nat.zero_le _ | (simp only [List.length_append, List.length_cons, List.length_nil]; omega) | (simp only [List.length_set]; omega) | omega) (by first | exact Nat.le_refl _ | exact Nat.zero_le _ | (simp only [List.length_append, List.length_cons, List.length_nil]; omega) | (simp only [List.length_set]; omega) | omega) ?_; rintro _ _ ⟨rfl, rfl⟩)) | (refine KV.run _ ?_) | (refine KT.run _ ?_) | (refine AWp.seqH fun KC => ?_) | (refine AWp.region ?_) | (refine AWp.ret ?_) | (refine AWp.skip ?_) | (refine AWp.exit ?_) | (refine aops_callH rfl fun kC => ?_) | (refine AWp.condB ?_) | (simp only [bse, wk, tys, storeH_ptr, Nat.reduceEqDiff, ↓reduceIte, reduceCtorEq, Nat.reduceAdd, Nat.reduceLeDiff, Int.reduceBEq, Int.reduceLT, Int.reduceLE, Int.reduceEq, ne_eq, not_false_eq_true, Nat.reduceMul, refE_val, refE_sz, outE_val, outE_sz, txE_val, txE_sz, ruleE_val, ruleE_sz, *]))
        all_goals rw [if_neg h3H.out, if_neg h3H.out]
theorem txText1 (member : Int) (ins : List TRef) (outs : List TOut) (h0 : txFault ⟨1, member, ins, outs⟩ = 0) (T : List UInt8) (hT : T = txT ⟨1, member, ins, outs⟩) :
    PCalls Tryz.prog 87 [txE.val ⟨1, member, ins, outs⟩] (.tuple #[.string (if 300 < T.length then bs [] else bs T), .int .i64 (if 300 < T.length then 2 else 0)]) := by
  obtain ⟨_, hkm, hm, hi, ho, hI, hO⟩ := tx_bounds h0
  dsimp only at *
  clear h0
  have hm0 : member ≠ 0 := by omega
  have hIr : ∀ x ∈ ins, (refT x).length ≤ 15 := fun x hx => by
    have := hI x hx; have q1 := itoa_len7 (x := x.tx) (by omega) (by omega); have q2 := itoa_len7 (x := x.at') (by omega) (by omega); unfold refT; simp; omega
  have hOr : ∀ x ∈ outs, (outT x).length ≤ 48 := fun x hx => by
    have := hO x hx; have q1 := itoa_len7 (x := x.value) (by omega) (by omega); have q2 := ruleT_len 95 this.2; unfold outT; simp; omega
  have hj1 := lib_JoinL (ins.map refT) 43 15 (fun w hw => by obtain ⟨x, hx, rfl⟩ := List.mem_map.1 hw; exact hIr x hx) (by rw [List.length_map]; omega)
  have hR1 := join_lenN 43 15 (ins.map refT) (fun w hw => by obtain ⟨x, hx, rfl⟩ := List.mem_map.1 hw; exact hIr x hx)
  rw [List.length_map] at hR1
  have hmd : PCalls Tryz.prog 93 [.int .i64 member] (.string (bs (Lib.itoa member))) := lib_dec member (by omega) (by omega)
  have hml := itoa_len7 (x := member) (by omega) (by omega)
  obtain ⟨R1, hR1e⟩ : ∃ R1, R1 = Lib.join (ins.map refT) [43] := ⟨_, rfl⟩
  have hTe : T = Lib.join ([([106, 111, 105, 110] : List UInt8)] ++ [Lib.itoa member] ++ [R1] ++ outs.map outT) [32] := by rw [hT, hR1e]; rfl
  rw [← hR1e] at hj1 hR1
  have hj2 := lib_JoinL ([([106, 111, 105, 110] : List UInt8)] ++ [Lib.itoa member] ++ [R1] ++ outs.map outT) 32 64 (fun w hw => by
    simp only [List.mem_append, List.mem_cons, List.not_mem_nil, or_false, false_or, List.mem_map] at hw
    rcases hw with ((rfl | rfl) | rfl) | ⟨x, hx, rfl⟩
    · simp
    · omega
    · omega
    · have := hOr x hx; omega) (by simp; omega)
  rw [← hTe] at hj2
  clear hT hTe hR1e hkm
  have hmp : ([([106, 111, 105, 110] : List UInt8)] ++ [Lib.itoa member] ++ [R1] ++ outs.map outT).map bs = [bs [106, 111, 105, 110], bs (Lib.itoa member), bs R1] ++ outs.map outS := by simp [outS, List.map_map, Function.comp_def]
  rw [hmp] at hj2
  have hmp1 : (ins.map refT).map bs = ins.map refS := by rw [List.map_map]; rfl
  rw [hmp1] at hj1
  clear hmp hmp1
  obtain ⟨rs, hrs⟩ : ∃ rs : Bool, rs = decide (300 < T.length) := ⟨_, rfl⟩
  have g3 : (1 : Int) < ((3 : Nat) : Int) := by decide
  have g4 : Int.toNat 1 = 1 := rfl
  have hap0 : appendH Tryz.prog 0 [⟨45, 0, [.int .i64 1, .int .i64 member, islE refE ins, islE outE outs], 0, true⟩, ⟨9, 1, [.string ⟨#[112, 97, 121]⟩, .string ⟨#[106, 111, 105, 110]⟩, .string ⟨#[108, 101, 97, 118, 101]⟩], 0, true⟩, ⟨9, 1, [.string ⟨#[106, 111, 105, 110]⟩], 0, true⟩, ⟨9, 1, [.string (bs (Lib.itoa member))], 0, true⟩] 22 22 (.slice (some ⟨2, 0, none⟩) 1 0) (.slice (some ⟨3, 0, none⟩) 1 0) = some (.slice (some ⟨2, 0, none⟩) 2 1, [⟨45, 0, [.int .i64 1, .int .i64 member, islE refE ins, islE outE outs], 0, true⟩, ⟨9, 1, [.string ⟨#[112, 97, 121]⟩, .string ⟨#[106, 111, 105, 110]⟩, .string ⟨#[108, 101, 97, 118, 101]⟩], 0, true⟩, ⟨9, 1, [.string ⟨#[106, 111, 105, 110]⟩, .string (bs (Lib.itoa member))], 1, true⟩, ⟨9, 1, [.string (bs (Lib.itoa member))], 0, true⟩]) :=
    appendH_one (P := Tryz.prog) (B := 0) (E := strE) (H0 := [⟨45, 0, [.int .i64 1, .int .i64 member, islE refE ins, islE outE outs], 0, true⟩, ⟨9, 1, [.string ⟨#[112, 97, 121]⟩, .string ⟨#[106, 111, 105, 110]⟩, .string ⟨#[108, 101, 97, 118, 101]⟩], 0, true⟩, ⟨9, 1, [.string ⟨#[106, 111, 105, 110]⟩], 0, true⟩]) (ys := [bs [106, 111, 105, 110]]) (bs (Lib.itoa member)) elZ22 elZ22 zOk22 (r := 2) rfl (Nat.zero_le _) (by decide) (by decide)
  refine PCalls.val (by first | exact islE_im _ _ | exact Enc.val_im _ _ | exact Im.flat _ rfl | (repeat' (first | exact Im.nilL | refine Im.consL ?_ ?_ | exact Im.flat _ rfl | exact islE_im _ _ | exact Enc.val_im _ _ | refine Im.aggL ?_ | refine Im.tupleL ?_ | refine Im.isl ?_))) ?_; refine ACalls.enter (n := 76) (rs := [.tmp 2, .tmp 3]) Tryz.func87 rfl rfl rfl (by kernel_rfl) (by kernel_rfl) (by kernel_rfl) (Nat.le_of_ble_eq_true rfl) ?_
  repeat' (first | (refine AWp.mixed (id := 1) [(1, 0), (2, 0), (0, 1), (3, 0), (4, 0), (5, 1), (6, 0)] (by kernel_rfl) (by kernel_rfl) ?_) | (refine ACalls.start ?_; first | (refine ACalls.get (impl_kindWords _) (by first | exact Nat.le_refl _ | exact Nat.zero_le _ | (simp only [List.length_append, List.length_cons, List.length_nil]; omega) | (simp only [List.length_set]; omega) | omega) (by first | exact Nat.le_refl _ | exact Nat.zero_le _ | (simp only [List.length_append, List.length_cons, List.length_nil]; omega) | (simp only [List.length_set]; omega) | omega) ?_; rintro _ _ ⟨rfl, rfl⟩) | (refine ACalls.ofJi (hmd) rfl ?_)) | (refine KV.run _ ?_) | (refine KT.run _ ?_) | (refine AWp.seqH fun KC => ?_) | (refine AWp.block ?_) | (refine AWp.region ?_) | (refine mops_step0 rfl rfl fun KC => ?_) | (refine mops_step1 rfl fun KC => ?_) | (refine aops_callH rfl fun kC => ?_) | (refine AWp.condB ?_) | (simp only [bse, wk, tys, storeH_ptr, Nat.reduceEqDiff, ↓reduceIte, reduceCtorEq, Nat.reduceAdd, Nat.reduceLeDiff, Int.reduceBEq, Int.reduceLT, Int.reduceLE, Int.reduceEq, ne_eq, not_false_eq_true, Nat.reduceMul, refE_val, refE_sz, outE_val, outE_sz, txE_val, txE_sz, ruleE_val, ruleE_sz, *]))
  clear hap0 hmd
  clear g3 g4
  refine AWp.loopH [31, 32, 33, 7, 34, 35, 36, 37, 38, 39, 40, 41, 42, 43, 44, 5, 45, 30] (fun m e' H' => ∃ (k ver : Nat) (G : AH), k ≤ ins.length ∧ m = ins.length - k ∧ e' 30 = .int .i64 k ∧ e' 5 = .slice (some ⟨4, 0, none⟩) k ver ∧ H' = ⟨45, 0, [.int .i64 1, .int .i64 member, islE refE ins, islE outE outs], 0, true⟩ :: ⟨9, 1, [.string ⟨#[112, 97, 121]⟩, .string ⟨#[106, 111, 105, 110]⟩, .string ⟨#[108, 101, 97, 118, 101]⟩], 0, true⟩ :: ⟨9, 1, [.string ⟨#[106, 111, 105, 110]⟩, .string (bs (Lib.itoa member))], 1, true⟩ :: ⟨9, 1, [.string (bs (Lib.itoa member))], 0, true⟩ :: ⟨9, 1, strE.flat ((ins.take k).map refS), ver, true⟩ :: G) ins.length ⟨0, 0, _, by omega, by omega, rfl, rfl, rfl⟩ ?_
  rintro m e' H' hA ⟨k, ver, G, hk, rfl, e30, e5, rfl⟩ hJ
  have a1 := hA 1 rfl; have a2 := hA 2 rfl; have a3 := hA 3 rfl; have a4 := hA 4 rfl; have a28 := hA 28 rfl; have a29 := hA 29 rfl; try simp only [bse, wk, tys, storeH_ptr, Nat.reduceEqDiff, ↓reduceIte, reduceCtorEq, Nat.reduceAdd, Nat.reduceLeDiff, Int.reduceBEq, Int.reduceLT, Int.reduceLE, Int.reduceEq, ne_eq, not_false_eq_true, Nat.reduceMul] at a1 a2 a3 a4 a28 a29; clear hA
  by_cases hlt : k < ins.length
  · have hlt' : (k : Int) < (ins.length : Int) := by omega
    have hw := wr_succ (k := k) (by omega)
    have hx := hI ins[k] (List.getElem_mem hlt)
    have hkl : ((ins.take k).map refS).length = k := by rw [List.length_map, List.length_take]; omega
    have hap := appendH_one (P := Tryz.prog) (B := 0) (E := strE) (H0 := ⟨45, 0, [.int .i64 1, .int .i64 member, islE refE ins, islE outE outs], 0, true⟩ :: ⟨9, 1, [.string ⟨#[112, 97, 121]⟩, .string ⟨#[106, 111, 105, 110]⟩, .string ⟨#[108, 101, 97, 118, 101]⟩], 0, true⟩ :: ⟨9, 1, [.string ⟨#[106, 111, 105, 110]⟩, .string (bs (Lib.itoa member))], 1, true⟩ :: ⟨9, 1, [.string (bs (Lib.itoa member))], 0, true⟩ :: ⟨9, 1, strE.flat ((ins.take k).map refS), ver, true⟩ :: (G ++ [⟨128, 0, [.int .i64 ins[k].tx, .int .i64 ins[k].at'], 0, true⟩])) (ys := (ins.take k).map refS) (refS ins[k]) elZ22 elZ22 zOk22 (r := 4) rfl (Nat.zero_le _) (by omega) (by omega)
    rw [hkl, ← map_step refS ins k hlt] at hap
    simp only [List.cons_append, List.length_cons, List.set_cons_succ, List.set_cons_zero, strE_sz, strE_val, cells_str, refS, List.length_append, List.length_nil, Nat.zero_add, List.append_assoc, List.nil_append] at hap
    have hd1 : PCalls Tryz.prog 93 [.int .i64 ins[k].tx] (.string (bs (Lib.itoa ins[k].tx))) := lib_dec _ (by omega) (by omega)
    have hd2 : PCalls Tryz.prog 93 [.int .i64 ins[k].at'] (.string (bs (Lib.itoa ins[k].at'))) := lib_dec _ (by omega) (by omega)
    have q1 := itoa_len7 (x := ins[k].tx) (by omega) (by omega)
    have q2 := itoa_len7 (x := ins[k].at') (by omega) (by omega)
    have a1 : ∀ xo yo, binS Tryz.prog .add 9 xo yo (.string (bs (Lib.itoa ins[k].tx))) (.string ⟨#[58]⟩) = some (.string (bs (Lib.itoa ins[k].tx ++ [58]))) := fun xo yo => bin_sadd _ _ _ (Lib.itoa ins[k].tx) [58] (by simp; omega)
    have a2 : ∀ xo yo, binS Tryz.prog .add 9 xo yo (.string (bs (Lib.itoa ins[k].tx ++ [58]))) (.string (bs (Lib.itoa ins[k].at'))) = some (.string (bs (refT ins[k]))) := fun xo yo => bin_sadd _ _ _ (Lib.itoa ins[k].tx ++ [58]) (Lib.itoa ins[k].at') (by simp; omega)
    clear hkl hI hO hIr hOr hj1 hj2 hx q1 q2
    repeat' (first | (refine KT.run _ ?_) | (refine AWp.seqH fun KC => ?_) | (refine AWp.block ?_) | (refine AWp.region ?_) | (refine AWp.skip ?_) | (refine AWp.condB ?_) | (simp only [bse, wk, tys, storeH_ptr, Nat.reduceEqDiff, ↓reduceIte, reduceCtorEq, Nat.reduceAdd, Nat.reduceLeDiff, Int.reduceBEq, Int.reduceLT, Int.reduceLE, Int.reduceEq, ne_eq, not_false_eq_true, Nat.reduceMul, refE_val, refE_sz, outE_val, outE_sz, txE_val, txE_sz, ruleE_val, ruleE_sz, *]))
    refine AWp.mixedT (id := 8) (.cons 0 0 (.cons 1 0 (.cons 2 0 (.cons 5 0 (.cons 6 0 (.cons 3 1 (.cons 4 0 (.cons 7 1 (.cons 8 0 (.cons 9 1 (.cons 10 2 (.cons 11 0 .nil)))))))))))) (by kernel_rfl) (by kernel_rfl) ?_
    refine mopsT_abs fun e0 he0 => ?_
    have r5 := congrFun he0 5
    have r7 := congrFun he0 7
    try simp only [bse, wk, tys, storeH_ptr, Nat.reduceEqDiff, ↓reduceIte, reduceCtorEq, Nat.reduceAdd, Nat.reduceLeDiff, Int.reduceBEq, Int.reduceLT, Int.reduceLE, Int.reduceEq, ne_eq, not_false_eq_true, Nat.reduceMul, refE_val, refE_sz, outE_val, outE_sz, txE_val, txE_sz, ruleE_val, ruleE_sz] at r5 r7
    have he1 : Hid _ := he0
    clear he0
    apply mopsT_cut
    case h1 =>
      repeat' (first | (refine mopsT_step0 rfl rfl fun KC => ?_) | (refine mopsT_step1 rfl fun KC => ?_) | (refine mopsT_step2 rfl fun KC => ?_) | (refine ACalls.start ?_; first | (refine ACalls.ofJi (hd1) rfl ?_) | (refine ACalls.ofJi (hd2) rfl ?_)) | (refine KV.run _ ?_) | (refine KT.run _ ?_) | (refine aops_callH rfl fun kC => ?_) | (simp only [bse, wk, tys, storeH_ptr, Nat.reduceEqDiff, ↓reduceIte, reduceCtorEq, Nat.reduceAdd, Nat.reduceLeDiff, Int.reduceBEq, Int.reduceLT, Int.reduceLE, Int.reduceEq, ne_eq, not_false_eq_true, Nat.reduceMul, refE_val, refE_sz, outE_val, outE_sz, txE_val, txE_sz, ruleE_val, ruleE_sz, *]))
      all_goals (first | exact ⟨rfl, rfl⟩ | (refine AtEH.mk (funext fun q => ?_) rfl; simp only [put, if_false]))
    have he2 := he1.out
    clear he1
    subst he2
    repeat' (first | (refine KT.run _ ?_) | (refine AWp.region ?_) | (simp only [bse, wk, tys, storeH_ptr, Nat.reduceEqDiff, ↓reduceIte, reduceCtorEq, Nat.reduceAdd, Nat.reduceLeDiff, Int.reduceBEq, Int.reduceLT, Int.reduceLE, Int.reduceEq, ne_eq, not_false_eq_true, Nat.reduceMul, refE_val, refE_sz, outE_val, outE_sz, txE_val, txE_sz, ruleE_val, ruleE_sz, *]))
    exact hJ.out _ _ ⟨ins.length - (k + 1), by omega, k + 1, ver + 1, _, by omega, rfl, rfl, by simp [put], rfl⟩ (by repeat (first | exact Agree.refl _ _ | assumption | refine Agree.put ?_ rfl _))
  · have hlt' : ¬ (k : Int) < (ins.length : Int) := by omega
    have hke : k = ins.length := by omega
    subst hke
    rw [List.take_length]
    have hb : BorL (⟨45, 0, [.int .i64 1, .int .i64 member, islE refE ins, islE outE outs], 0, true⟩ :: ⟨9, 1, [.string ⟨#[112, 97, 121]⟩, .string ⟨#[106, 111, 105, 110]⟩, .string ⟨#[108, 101, 97, 118, 101]⟩], 0, true⟩ :: ⟨9, 1, [.string ⟨#[106, 111, 105, 110]⟩, .string (bs (Lib.itoa member))], 1, true⟩ :: ⟨9, 1, [.string (bs (Lib.itoa member))], 0, true⟩ :: ⟨9, 1, strE.flat (ins.map refS), ver, true⟩ :: G) [.slice (some ⟨4, 0, none⟩) ins.length ver, .string (bs [43])] [islE strE (ins.map refS), .string (bs [43])] :=
      .cons (Bor.sbE (E := strE) (ys := ins.map refS) rfl (fun _ => rfl) (by rw [List.length_map])) (.cons (.same _ (.flat _ rfl)) .nil)
    have hjo := fun (B : Nat) => ACalls.ofP (B := B) (k := fun d H' => d = .string (bs R1) ∧ ⟨45, 0, [.int .i64 1, .int .i64 member, islE refE ins, islE outE outs], 0, true⟩ :: ⟨9, 1, [.string ⟨#[112, 97, 121]⟩, .string ⟨#[106, 111, 105, 110]⟩, .string ⟨#[108, 101, 97, 118, 101]⟩], 0, true⟩ :: ⟨9, 1, [.string ⟨#[106, 111, 105, 110]⟩, .string (bs (Lib.itoa member))], 1, true⟩ :: ⟨9, 1, [.string (bs (Lib.itoa member))], 0, true⟩ :: ⟨9, 1, strE.flat (ins.map refS), ver, true⟩ :: G = H') hj1 hb rfl ⟨rfl, rfl⟩
    have hap1 : appendH Tryz.prog 0 (⟨45, 0, [.int .i64 1, .int .i64 member, islE refE ins, islE outE outs], 0, true⟩ :: ⟨9, 1, [.string ⟨#[112, 97, 121]⟩, .string ⟨#[106, 111, 105, 110]⟩, .string ⟨#[108, 101, 97, 118, 101]⟩], 0, true⟩ :: ⟨9, 1, [.string ⟨#[106, 111, 105, 110]⟩, .string (bs (Lib.itoa member))], 1, true⟩ :: ⟨9, 1, [.string (bs (Lib.itoa member))], 0, true⟩ :: ⟨9, 1, strE.flat (ins.map refS), ver, true⟩ :: (G ++ [⟨9, 1, [.string (bs R1)], 0, true⟩])) 22 22 (.slice (some ⟨2, 0, none⟩) 2 1) (.slice (some ⟨G.length + 5, 0, none⟩) 1 0) = some (.slice (some ⟨2, 0, none⟩) 3 2, ⟨45, 0, [.int .i64 1, .int .i64 member, islE refE ins, islE outE outs], 0, true⟩ :: ⟨9, 1, [.string ⟨#[112, 97, 121]⟩, .string ⟨#[106, 111, 105, 110]⟩, .string ⟨#[108, 101, 97, 118, 101]⟩], 0, true⟩ :: ⟨9, 1, [.string ⟨#[106, 111, 105, 110]⟩, .string (bs (Lib.itoa member)), .string (bs R1)], 2, true⟩ :: ⟨9, 1, [.string (bs (Lib.itoa member))], 0, true⟩ :: ⟨9, 1, strE.flat (ins.map refS), ver, true⟩ :: (G ++ [⟨9, 1, [.string (bs R1)], 0, true⟩])) := by
      have := appendH_one (P := Tryz.prog) (B := 0) (E := strE) (H0 := ⟨45, 0, [.int .i64 1, .int .i64 member, islE refE ins, islE outE outs], 0, true⟩ :: ⟨9, 1, [.string ⟨#[112, 97, 121]⟩, .string ⟨#[106, 111, 105, 110]⟩, .string ⟨#[108, 101, 97, 118, 101]⟩], 0, true⟩ :: ⟨9, 1, [.string ⟨#[106, 111, 105, 110]⟩, .string (bs (Lib.itoa member))], 1, true⟩ :: ⟨9, 1, [.string (bs (Lib.itoa member))], 0, true⟩ :: ⟨9, 1, strE.flat (ins.map refS), ver, true⟩ :: G) (ys := [bs [106, 111, 105, 110], bs (Lib.itoa member)]) (bs R1) elZ22 elZ22 zOk22 (ver := 1) (r := 2) rfl (Nat.zero_le _) (by simp only [List.length_cons, List.length_nil]; decide) (by simp only [List.length_cons, List.length_nil]; decide)
      exact this
    clear hb hj1 hI hIr hR1 hlt hk
    repeat' (first | (refine ACalls.start ?_; first | (refine ACalls.get (hjo _) (by first | exact Nat.le_refl _ | exact Nat.zero_le _ | (simp only [List.length_append, List.length_cons, List.length_nil]; omega) | (simp only [List.length_set]; omega) | omega) (by first | exact Nat.le_refl _ | exact Nat.zero_le _ | (simp only [List.length_append, List.length_cons, List.length_nil]; omega) | (simp only [List.length_set]; omega) | omega) ?_; rintro _ _ ⟨rfl, rfl⟩)) | (refine KV.run _ ?_) | (refine KT.run _ ?_) | (refine AWp.seqH fun KC => ?_) | (refine AWp.block ?_) | (refine AWp.region ?_) | (refine AWp.exit ?_) | (refine aops_callH rfl fun kC => ?_) | (refine AWp.condB ?_) | (simp only [bse, wk, tys, storeH_ptr, Nat.reduceEqDiff, ↓reduceIte, reduceCtorEq, Nat.reduceAdd, Nat.reduceLeDiff, Int.reduceBEq, Int.reduceLT, Int.reduceLE, Int.reduceEq, ne_eq, not_false_eq_true, Nat.reduceMul, refE_val, refE_sz, outE_val, outE_sz, txE_val, txE_sz, ruleE_val, ruleE_sz, *]))
    clear hap1 hjo e5 e30 hlt'
    generalize ⟨9, 1, [.string (bs (Lib.itoa member))], 0, true⟩ :: ⟨9, 1, strE.flat (ins.map refS), ver, true⟩ :: (G ++ [⟨9, 1, [.string (bs R1)], 0, true⟩]) = GG
    refine AWp.loopH [55, 56, 57, 9, 58, 59, 60, 61, 62, 63, 64, 65, 66, 67, 68, 4, 69, 54] (fun m e' H' => ∃ (k ver : Nat) (G : AH), k ≤ outs.length ∧ m = outs.length - k ∧ e' 54 = .int .i64 k ∧ e' 4 = .slice (some ⟨2, 0, none⟩) (3 + k) ver ∧ H' = ⟨45, 0, [.int .i64 1, .int .i64 member, islE refE ins, islE outE outs], 0, true⟩ :: ⟨9, 1, [.string ⟨#[112, 97, 121]⟩, .string ⟨#[106, 111, 105, 110]⟩, .string ⟨#[108, 101, 97, 118, 101]⟩], 0, true⟩ :: ⟨9, 1, strE.flat ([bs [106, 111, 105, 110], bs (Lib.itoa member), bs R1] ++ (outs.take k).map outS), ver, true⟩ :: G) outs.length ⟨0, 2, _, by omega, by omega, rfl, rfl, rfl⟩ ?_
    rintro m e' H' hA ⟨k, ver, G, hk, rfl, e54, e4, rfl⟩ hJ
    have a2 := hA 2 rfl; have a3 := hA 3 rfl; have a52 := hA 52 rfl; have a53 := hA 53 rfl; try simp only [bse, wk, tys, storeH_ptr, Nat.reduceEqDiff, ↓reduceIte, reduceCtorEq, Nat.reduceAdd, Nat.reduceLeDiff, Int.reduceBEq, Int.reduceLT, Int.reduceLE, Int.reduceEq, ne_eq, not_false_eq_true, Nat.reduceMul] at a2 a3 a52 a53; clear hA
    by_cases hlt : k < outs.length
    · have hlt' : (k : Int) < (outs.length : Int) := by omega
      have hw := wr_succ (k := k) (by omega)
      have hx := hO outs[k] (List.getElem_mem hlt)
      have hkl : ([bs [106, 111, 105, 110], bs (Lib.itoa member), bs R1] ++ (outs.take k).map outS).length = 3 + k := by simp only [List.length_append, List.length_cons, List.length_nil, List.length_map, List.length_take]; omega
      have hap := appendH_one (P := Tryz.prog) (B := 0) (E := strE) (H0 := ⟨45, 0, [.int .i64 1, .int .i64 member, islE refE ins, islE outE outs], 0, true⟩ :: ⟨9, 1, [.string ⟨#[112, 97, 121]⟩, .string ⟨#[106, 111, 105, 110]⟩, .string ⟨#[108, 101, 97, 118, 101]⟩], 0, true⟩ :: ⟨9, 1, strE.flat ([bs [106, 111, 105, 110], bs (Lib.itoa member), bs R1] ++ (outs.take k).map outS), ver, true⟩ :: (G ++ [⟨120, 0, [.int .i64 outs[k].value, islE intE outs[k].rule.keys, .int .i64 outs[k].rule.need, .int .i64 outs[k].rule.after], 0, true⟩])) (ys := [bs [106, 111, 105, 110], bs (Lib.itoa member), bs R1] ++ (outs.take k).map outS) (outS outs[k]) elZ22 elZ22 zOk22 (r := 2) rfl (Nat.zero_le _) (by rw [hkl]; omega) (by rw [hkl]; omega)
      have hst : ([bs [106, 111, 105, 110], bs (Lib.itoa member), bs R1] ++ (outs.take k).map outS) ++ [outS outs[k]] = [bs [106, 111, 105, 110], bs (Lib.itoa member), bs R1] ++ (outs.take (k + 1)).map outS := by rw [List.append_assoc, ← map_step outS outs k hlt]
      rw [hst, hkl] at hap
      clear hst
      simp only [List.length_append, List.cons_append, List.length_cons, List.set_cons_succ, List.set_cons_zero, strE_sz, strE_val, cells_str, List.length_nil, Nat.zero_add, List.append_assoc, List.nil_append] at hap
      have hoS : Value.string (outS outs[k]) = .string (bs (outT outs[k])) := rfl
      rw [hoS] at hap
      clear hoS
      have hd1 : PCalls Tryz.prog 93 [.int .i64 outs[k].value] (.string (bs (Lib.itoa outs[k].value))) := lib_dec _ (by omega) (by omega)
      have hrt := impl_ruleText outs[k].rule 95 hx.2
      have q1 := itoa_len7 (x := outs[k].value) (by omega) (by omega)
      have q2 := ruleT_len 95 hx.2
      have a1 : ∀ xo yo, binS Tryz.prog .add 9 xo yo (.string (bs (Lib.itoa outs[k].value))) (.string ⟨#[61]⟩) = some (.string (bs (Lib.itoa outs[k].value ++ [61]))) := fun xo yo => bin_sadd _ _ _ (Lib.itoa outs[k].value) [61] (by simp; omega)
      have a2 : ∀ xo yo, binS Tryz.prog .add 9 xo yo (.string (bs (Lib.itoa outs[k].value ++ [61]))) (.string (bs (ruleT 95 outs[k].rule))) = some (.string (bs (outT outs[k]))) := fun xo yo => bin_sadd _ _ _ (Lib.itoa outs[k].value ++ [61]) (ruleT 95 outs[k].rule) (by simp; omega)
      clear hkl hO hOr hj2 hx q1 q2
      repeat' (first | (refine KT.run _ ?_) | (refine AWp.seqH fun KC => ?_) | (refine AWp.block ?_) | (refine AWp.region ?_) | (refine AWp.skip ?_) | (refine AWp.condB ?_) | (simp only [bse, wk, tys, storeH_ptr, Nat.reduceEqDiff, ↓reduceIte, reduceCtorEq, Nat.reduceAdd, Nat.reduceLeDiff, Int.reduceBEq, Int.reduceLT, Int.reduceLE, Int.reduceEq, ne_eq, not_false_eq_true, Nat.reduceMul, refE_val, refE_sz, outE_val, outE_sz, txE_val, txE_sz, ruleE_val, ruleE_sz, *]))
      refine AWp.mixedT (id := 14) (.cons 0 0 (.cons 1 0 (.cons 2 0 (.cons 5 0 (.cons 6 0 (.cons 3 1 (.cons 4 0 (.cons 7 1 (.cons 8 0 (.cons 9 1 (.cons 10 2 (.cons 11 0 .nil)))))))))))) (by kernel_rfl) (by kernel_rfl) ?_
      refine mopsT_abs fun e0 he0 => ?_
      have r4 := congrFun he0 4
      have r9 := congrFun he0 9
      try simp only [bse, wk, tys, storeH_ptr, Nat.reduceEqDiff, ↓reduceIte, reduceCtorEq, Nat.reduceAdd, Nat.reduceLeDiff, Int.reduceBEq, Int.reduceLT, Int.reduceLE, Int.reduceEq, ne_eq, not_false_eq_true, Nat.reduceMul, refE_val, refE_sz, outE_val, outE_sz, txE_val, txE_sz, ruleE_val, ruleE_sz] at r4 r9
      have he1 : Hid _ := he0
      clear he0
      apply mopsT_cut
      case h1 =>
        repeat' (first | (refine mopsT_step0 rfl rfl fun KC => ?_) | (refine mopsT_step1 rfl fun KC => ?_) | (refine mopsT_step2 rfl fun KC => ?_) | (refine ACalls.start ?_; first | (refine ACalls.ofJi (hd1) rfl ?_) | (refine ACalls.ofJi (hrt) rfl ?_)) | (refine KV.run _ ?_) | (refine KT.run _ ?_) | (refine aops_callH rfl fun kC => ?_) | (simp only [bse, wk, tys, storeH_ptr, Nat.reduceEqDiff, ↓reduceIte, reduceCtorEq, Nat.reduceAdd, Nat.reduceLeDiff, Int.reduceBEq, Int.reduceLT, Int.reduceLE, Int.reduceEq, ne_eq, not_false_eq_true, Nat.reduceMul, refE_val, refE_sz, outE_val, outE_sz, txE_val, txE_sz, ruleE_val, ruleE_sz, *]))
        all_goals (first | exact ⟨rfl, rfl⟩ | (refine AtEH.mk (funext fun q => ?_) rfl; simp only [put, if_false]))
      have he2 := he1.out
      clear he1
      subst he2
      repeat' (first | (refine KT.run _ ?_) | (refine AWp.region ?_) | (simp only [bse, wk, tys, storeH_ptr, Nat.reduceEqDiff, ↓reduceIte, reduceCtorEq, Nat.reduceAdd, Nat.reduceLeDiff, Int.reduceBEq, Int.reduceLT, Int.reduceLE, Int.reduceEq, ne_eq, not_false_eq_true, Nat.reduceMul, refE_val, refE_sz, outE_val, outE_sz, txE_val, txE_sz, ruleE_val, ruleE_sz, *]))
      exact hJ.out _ _ ⟨outs.length - (k + 1), by omega, k + 1, ver + 1, _, by omega, rfl, rfl, by simp [put]; rfl, rfl⟩ (by repeat (first | exact Agree.refl _ _ | assumption | refine Agree.put ?_ rfl _))
    · have hlt' : ¬ (k : Int) < (outs.length : Int) := by omega
      have hke : k = outs.length := by omega
      subst hke
      rw [List.take_length]
      have hb : BorL (⟨45, 0, [.int .i64 1, .int .i64 member, islE refE ins, islE outE outs], 0, true⟩ :: ⟨9, 1, [.string ⟨#[112, 97, 121]⟩, .string ⟨#[106, 111, 105, 110]⟩, .string ⟨#[108, 101, 97, 118, 101]⟩], 0, true⟩ :: ⟨9, 1, strE.flat ([bs [106, 111, 105, 110], bs (Lib.itoa member), bs R1] ++ outs.map outS), ver, true⟩ :: G) [.slice (some ⟨2, 0, none⟩) (3 + outs.length) ver, .string (bs [32])] [islE strE ([bs [106, 111, 105, 110], bs (Lib.itoa member), bs R1] ++ outs.map outS), .string (bs [32])] :=
        .cons (Bor.sbE (E := strE) (ys := [bs [106, 111, 105, 110], bs (Lib.itoa member), bs R1] ++ outs.map outS) rfl (fun _ => rfl) (by simp only [List.length_append, List.length_cons, List.length_nil, List.length_map])) (.cons (.same _ (.flat _ rfl)) .nil)
      have hjo := fun (B : Nat) => ACalls.ofP (B := B) (k := fun d H' => d = .string (bs T) ∧ ⟨45, 0, [.int .i64 1, .int .i64 member, islE refE ins, islE outE outs], 0, true⟩ :: ⟨9, 1, [.string ⟨#[112, 97, 121]⟩, .string ⟨#[106, 111, 105, 110]⟩, .string ⟨#[108, 101, 97, 118, 101]⟩], 0, true⟩ :: ⟨9, 1, strE.flat ([bs [106, 111, 105, 110], bs (Lib.itoa member), bs R1] ++ outs.map outS), ver, true⟩ :: G = H') hj2 hb rfl ⟨rfl, rfl⟩
      clear hb hj2 hO hOr hlt hk hrs rs
      by_cases h300 : 300 < T.length
      · have h3' : (300 : Int) < (T.length : Int) := by omega
        have h3H : Hid _ := h300
        clear h300
        repeat' (first | (refine ACalls.start ?_; first | (refine ACalls.get (hjo _) (by first | exact Nat.le_refl _ | exact Nat.zero_le _ | (simp only [List.length_append, List.length_cons, List.length_nil]; omega) | (simp only [List.length_set]; omega) | omega) (by first | exact Nat.le_refl _ | exact Nat.zero_le _ | (simp only [List.length_append, List.length_cons, List.length_nil]; omega) | (simp only [List.length_set]; omega) | omega) ?_; rintro _ _ ⟨rfl, rfl⟩)) | (refine KV.run _ ?_) | (refine KT.run _ ?_) | (refine AWp.seqH fun KC => ?_) | (refine AWp.region ?_) | (refine AWp.ret ?_) | (refine AWp.exit ?_) | (refine aops_callH rfl fun kC => ?_) | (refine AWp.condB ?_) | (simp only [bse, wk, tys, storeH_ptr, Nat.reduceEqDiff, ↓reduceIte, reduceCtorEq, Nat.reduceAdd, Nat.reduceLeDiff, Int.reduceBEq, Int.reduceLT, Int.reduceLE, Int.reduceEq, ne_eq, not_false_eq_true, Nat.reduceMul, refE_val, refE_sz, outE_val, outE_sz, txE_val, txE_sz, ruleE_val, ruleE_sz, *]))
        all_goals rw [if_pos h3H.out, if_pos h3H.out]
      · have h3' : ¬ (300 : Int) < (T.length : Int) := by omega
        have h3H : Hid _ := h300
        clear h300
        repeat' (first | (refine ACalls.start ?_; first | (refine ACalls.get (hjo _) (by first | exact Nat.le_refl _ | exact Nat.zero_le _ | (simp only [List.length_append, List.length_cons, List.length_nil]; omega) | (simp only [List.length_set]; omega) | omega) (by first | exact Nat.le_refl _ | exact Nat.zero_le _ | (simp only [List.length_append, List.length_cons, List.length_nil]; omega) | (simp only [List.length_set]; omega) | omega) ?_; rintro _ _ ⟨rfl, rfl⟩)) | (refine KV.run _ ?_) | (refine KT.run _ ?_) | (refine AWp.seqH fun KC => ?_) | (refine AWp.region ?_) | (refine AWp.ret ?_) | (refine AWp.skip ?_) | (refine AWp.exit ?_) | (refine aops_callH rfl fun kC => ?_) | (refine AWp.condB ?_) | (simp only [bse, wk, tys, storeH_ptr, Nat.reduceEqDiff, ↓reduceIte, reduceCtorEq, Nat.reduceAdd, Nat.reduceLeDiff, Int.reduceBEq, Int.reduceLT, Int.reduceLE, Int.reduceEq, ne_eq, not_false_eq_true, Nat.reduceMul, refE_val, refE_sz, outE_val, outE_sz, txE_val, txE_sz, ruleE_val, ruleE_sz, *]))
        all_goals rw [if_neg h3H.out, if_neg h3H.out]
theorem txText2 (member : Int) (ins : List TRef) (outs : List TOut) (h0 : txFault ⟨2, member, ins, outs⟩ = 0) (T : List UInt8) (hT : T = txT ⟨2, member, ins, outs⟩) :
    PCalls Tryz.prog 87 [txE.val ⟨2, member, ins, outs⟩] (.tuple #[.string (if 300 < T.length then bs [] else bs T), .int .i64 (if 300 < T.length then 2 else 0)]) := by
  obtain ⟨_, hkm, hm, hi, ho, hI, hO⟩ := tx_bounds h0
  dsimp only at *
  clear h0
  have hm0 : member ≠ 0 := by omega
  have hIr : ∀ x ∈ ins, (refT x).length ≤ 15 := fun x hx => by
    have := hI x hx; have q1 := itoa_len7 (x := x.tx) (by omega) (by omega); have q2 := itoa_len7 (x := x.at') (by omega) (by omega); unfold refT; simp; omega
  have hOr : ∀ x ∈ outs, (outT x).length ≤ 48 := fun x hx => by
    have := hO x hx; have q1 := itoa_len7 (x := x.value) (by omega) (by omega); have q2 := ruleT_len 95 this.2; unfold outT; simp; omega
  have hj1 := lib_JoinL (ins.map refT) 43 15 (fun w hw => by obtain ⟨x, hx, rfl⟩ := List.mem_map.1 hw; exact hIr x hx) (by rw [List.length_map]; omega)
  have hR1 := join_lenN 43 15 (ins.map refT) (fun w hw => by obtain ⟨x, hx, rfl⟩ := List.mem_map.1 hw; exact hIr x hx)
  rw [List.length_map] at hR1
  have hmd : PCalls Tryz.prog 93 [.int .i64 member] (.string (bs (Lib.itoa member))) := lib_dec member (by omega) (by omega)
  have hml := itoa_len7 (x := member) (by omega) (by omega)
  obtain ⟨R1, hR1e⟩ : ∃ R1, R1 = Lib.join (ins.map refT) [43] := ⟨_, rfl⟩
  have hTe : T = Lib.join ([([108, 101, 97, 118, 101] : List UInt8)] ++ [Lib.itoa member] ++ [R1] ++ outs.map outT) [32] := by rw [hT, hR1e]; rfl
  rw [← hR1e] at hj1 hR1
  have hj2 := lib_JoinL ([([108, 101, 97, 118, 101] : List UInt8)] ++ [Lib.itoa member] ++ [R1] ++ outs.map outT) 32 64 (fun w hw => by
    simp only [List.mem_append, List.mem_cons, List.not_mem_nil, or_false, false_or, List.mem_map] at hw
    rcases hw with ((rfl | rfl) | rfl) | ⟨x, hx, rfl⟩
    · simp
    · omega
    · omega
    · have := hOr x hx; omega) (by simp; omega)
  rw [← hTe] at hj2
  clear hT hTe hR1e hkm
  have hmp : ([([108, 101, 97, 118, 101] : List UInt8)] ++ [Lib.itoa member] ++ [R1] ++ outs.map outT).map bs = [bs [108, 101, 97, 118, 101], bs (Lib.itoa member), bs R1] ++ outs.map outS := by simp [outS, List.map_map, Function.comp_def]
  rw [hmp] at hj2
  have hmp1 : (ins.map refT).map bs = ins.map refS := by rw [List.map_map]; rfl
  rw [hmp1] at hj1
  clear hmp hmp1
  obtain ⟨rs, hrs⟩ : ∃ rs : Bool, rs = decide (300 < T.length) := ⟨_, rfl⟩
  have g3 : (2 : Int) < ((3 : Nat) : Int) := by decide
  have g4 : Int.toNat 2 = 2 := rfl
  have hap0 : appendH Tryz.prog 0 [⟨45, 0, [.int .i64 2, .int .i64 member, islE refE ins, islE outE outs], 0, true⟩, ⟨9, 1, [.string ⟨#[112, 97, 121]⟩, .string ⟨#[106, 111, 105, 110]⟩, .string ⟨#[108, 101, 97, 118, 101]⟩], 0, true⟩, ⟨9, 1, [.string ⟨#[108, 101, 97, 118, 101]⟩], 0, true⟩, ⟨9, 1, [.string (bs (Lib.itoa member))], 0, true⟩] 22 22 (.slice (some ⟨2, 0, none⟩) 1 0) (.slice (some ⟨3, 0, none⟩) 1 0) = some (.slice (some ⟨2, 0, none⟩) 2 1, [⟨45, 0, [.int .i64 2, .int .i64 member, islE refE ins, islE outE outs], 0, true⟩, ⟨9, 1, [.string ⟨#[112, 97, 121]⟩, .string ⟨#[106, 111, 105, 110]⟩, .string ⟨#[108, 101, 97, 118, 101]⟩], 0, true⟩, ⟨9, 1, [.string ⟨#[108, 101, 97, 118, 101]⟩, .string (bs (Lib.itoa member))], 1, true⟩, ⟨9, 1, [.string (bs (Lib.itoa member))], 0, true⟩]) :=
    appendH_one (P := Tryz.prog) (B := 0) (E := strE) (H0 := [⟨45, 0, [.int .i64 2, .int .i64 member, islE refE ins, islE outE outs], 0, true⟩, ⟨9, 1, [.string ⟨#[112, 97, 121]⟩, .string ⟨#[106, 111, 105, 110]⟩, .string ⟨#[108, 101, 97, 118, 101]⟩], 0, true⟩, ⟨9, 1, [.string ⟨#[108, 101, 97, 118, 101]⟩], 0, true⟩]) (ys := [bs [108, 101, 97, 118, 101]]) (bs (Lib.itoa member)) elZ22 elZ22 zOk22 (r := 2) rfl (Nat.zero_le _) (by decide) (by decide)
  refine PCalls.val (by first | exact islE_im _ _ | exact Enc.val_im _ _ | exact Im.flat _ rfl | (repeat' (first | exact Im.nilL | refine Im.consL ?_ ?_ | exact Im.flat _ rfl | exact islE_im _ _ | exact Enc.val_im _ _ | refine Im.aggL ?_ | refine Im.tupleL ?_ | refine Im.isl ?_))) ?_; refine ACalls.enter (n := 76) (rs := [.tmp 2, .tmp 3]) Tryz.func87 rfl rfl rfl (by kernel_rfl) (by kernel_rfl) (by kernel_rfl) (Nat.le_of_ble_eq_true rfl) ?_
  repeat' (first | (refine AWp.mixed (id := 1) [(1, 0), (2, 0), (0, 1), (3, 0), (4, 0), (5, 1), (6, 0)] (by kernel_rfl) (by kernel_rfl) ?_) | (refine ACalls.start ?_; first | (refine ACalls.get (impl_kindWords _) (by first | exact Nat.le_refl _ | exact Nat.zero_le _ | (simp only [List.length_append, List.length_cons, List.length_nil]; omega) | (simp only [List.length_set]; omega) | omega) (by first | exact Nat.le_refl _ | exact Nat.zero_le _ | (simp only [List.length_append, List.length_cons, List.length_nil]; omega) | (simp only [List.length_set]; omega) | omega) ?_; rintro _ _ ⟨rfl, rfl⟩) | (refine ACalls.ofJi (hmd) rfl ?_)) | (refine KV.run _ ?_) | (refine KT.run _ ?_) | (refine AWp.seqH fun KC => ?_) | (refine AWp.block ?_) | (refine AWp.region ?_) | (refine mops_step0 rfl rfl fun KC => ?_) | (refine mops_step1 rfl fun KC => ?_) | (refine aops_callH rfl fun kC => ?_) | (refine AWp.condB ?_) | (simp only [bse, wk, tys, storeH_ptr, Nat.reduceEqDiff, ↓reduceIte, reduceCtorEq, Nat.reduceAdd, Nat.reduceLeDiff, Int.reduceBEq, Int.reduceLT, Int.reduceLE, Int.reduceEq, ne_eq, not_false_eq_true, Nat.reduceMul, refE_val, refE_sz, outE_val, outE_sz, txE_val, txE_sz, ruleE_val, ruleE_sz, *]))
  clear hap0 hmd
  clear g3 g4
  refine AWp.loopH [31, 32, 33, 7, 34, 35, 36, 37, 38, 39, 40, 41, 42, 43, 44, 5, 45, 30] (fun m e' H' => ∃ (k ver : Nat) (G : AH), k ≤ ins.length ∧ m = ins.length - k ∧ e' 30 = .int .i64 k ∧ e' 5 = .slice (some ⟨4, 0, none⟩) k ver ∧ H' = ⟨45, 0, [.int .i64 2, .int .i64 member, islE refE ins, islE outE outs], 0, true⟩ :: ⟨9, 1, [.string ⟨#[112, 97, 121]⟩, .string ⟨#[106, 111, 105, 110]⟩, .string ⟨#[108, 101, 97, 118, 101]⟩], 0, true⟩ :: ⟨9, 1, [.string ⟨#[108, 101, 97, 118, 101]⟩, .string (bs (Lib.itoa member))], 1, true⟩ :: ⟨9, 1, [.string (bs (Lib.itoa member))], 0, true⟩ :: ⟨9, 1, strE.flat ((ins.take k).map refS), ver, true⟩ :: G) ins.length ⟨0, 0, _, by omega, by omega, rfl, rfl, rfl⟩ ?_
  rintro m e' H' hA ⟨k, ver, G, hk, rfl, e30, e5, rfl⟩ hJ
  have a1 := hA 1 rfl; have a2 := hA 2 rfl; have a3 := hA 3 rfl; have a4 := hA 4 rfl; have a28 := hA 28 rfl; have a29 := hA 29 rfl; try simp only [bse, wk, tys, storeH_ptr, Nat.reduceEqDiff, ↓reduceIte, reduceCtorEq, Nat.reduceAdd, Nat.reduceLeDiff, Int.reduceBEq, Int.reduceLT, Int.reduceLE, Int.reduceEq, ne_eq, not_false_eq_true, Nat.reduceMul] at a1 a2 a3 a4 a28 a29; clear hA
  by_cases hlt : k < ins.length
  · have hlt' : (k : Int) < (ins.length : Int) := by omega
    have hw := wr_succ (k := k) (by omega)
    have hx := hI ins[k] (List.getElem_mem hlt)
    have hkl : ((ins.take k).map refS).length = k := by rw [List.length_map, List.length_take]; omega
    have hap := appendH_one (P := Tryz.prog) (B := 0) (E := strE) (H0 := ⟨45, 0, [.int .i64 2, .int .i64 member, islE refE ins, islE outE outs], 0, true⟩ :: ⟨9, 1, [.string ⟨#[112, 97, 121]⟩, .string ⟨#[106, 111, 105, 110]⟩, .string ⟨#[108, 101, 97, 118, 101]⟩], 0, true⟩ :: ⟨9, 1, [.string ⟨#[108, 101, 97, 118, 101]⟩, .string (bs (Lib.itoa member))], 1, true⟩ :: ⟨9, 1, [.string (bs (Lib.itoa member))], 0, true⟩ :: ⟨9, 1, strE.flat ((ins.take k).map refS), ver, true⟩ :: (G ++ [⟨128, 0, [.int .i64 ins[k].tx, .int .i64 ins[k].at'], 0, true⟩])) (ys := (ins.take k).map refS) (refS ins[k]) elZ22 elZ22 zOk22 (r := 4) rfl (Nat.zero_le _) (by omega) (by omega)
    rw [hkl, ← map_step refS ins k hlt] at hap
    simp only [List.cons_append, List.length_cons, List.set_cons_succ, List.set_cons_zero, strE_sz, strE_val, cells_str, refS, List.length_append, List.length_nil, Nat.zero_add, List.append_assoc, List.nil_append] at hap
    have hd1 : PCalls Tryz.prog 93 [.int .i64 ins[k].tx] (.string (bs (Lib.itoa ins[k].tx))) := lib_dec _ (by omega) (by omega)
    have hd2 : PCalls Tryz.prog 93 [.int .i64 ins[k].at'] (.string (bs (Lib.itoa ins[k].at'))) := lib_dec _ (by omega) (by omega)
    have q1 := itoa_len7 (x := ins[k].tx) (by omega) (by omega)
    have q2 := itoa_len7 (x := ins[k].at') (by omega) (by omega)
    have a1 : ∀ xo yo, binS Tryz.prog .add 9 xo yo (.string (bs (Lib.itoa ins[k].tx))) (.string ⟨#[58]⟩) = some (.string (bs (Lib.itoa ins[k].tx ++ [58]))) := fun xo yo => bin_sadd _ _ _ (Lib.itoa ins[k].tx) [58] (by simp; omega)
    have a2 : ∀ xo yo, binS Tryz.prog .add 9 xo yo (.string (bs (Lib.itoa ins[k].tx ++ [58]))) (.string (bs (Lib.itoa ins[k].at'))) = some (.string (bs (refT ins[k]))) := fun xo yo => bin_sadd _ _ _ (Lib.itoa ins[k].tx ++ [58]) (Lib.itoa ins[k].at') (by simp; omega)
    clear hkl hI hO hIr hOr hj1 hj2 hx q1 q2
    repeat' (first | (refine KT.run _ ?_) | (refine AWp.seqH fun KC => ?_) | (refine AWp.block ?_) | (refine AWp.region ?_) | (refine AWp.skip ?_) | (refine AWp.condB ?_) | (simp only [bse, wk, tys, storeH_ptr, Nat.reduceEqDiff, ↓reduceIte, reduceCtorEq, Nat.reduceAdd, Nat.reduceLeDiff, Int.reduceBEq, Int.reduceLT, Int.reduceLE, Int.reduceEq, ne_eq, not_false_eq_true, Nat.reduceMul, refE_val, refE_sz, outE_val, outE_sz, txE_val, txE_sz, ruleE_val, ruleE_sz, *]))
    refine AWp.mixedT (id := 8) (.cons 0 0 (.cons 1 0 (.cons 2 0 (.cons 5 0 (.cons 6 0 (.cons 3 1 (.cons 4 0 (.cons 7 1 (.cons 8 0 (.cons 9 1 (.cons 10 2 (.cons 11 0 .nil)))))))))))) (by kernel_rfl) (by kernel_rfl) ?_
    refine mopsT_abs fun e0 he0 => ?_
    have r5 := congrFun he0 5
    have r7 := congrFun he0 7
    try simp only [bse, wk, tys, storeH_ptr, Nat.reduceEqDiff, ↓reduceIte, reduceCtorEq, Nat.reduceAdd, Nat.reduceLeDiff, Int.reduceBEq, Int.reduceLT, Int.reduceLE, Int.reduceEq, ne_eq, not_false_eq_true, Nat.reduceMul, refE_val, refE_sz, outE_val, outE_sz, txE_val, txE_sz, ruleE_val, ruleE_sz] at r5 r7
    have he1 : Hid _ := he0
    clear he0
    apply mopsT_cut
    case h1 =>
      repeat' (first | (refine mopsT_step0 rfl rfl fun KC => ?_) | (refine mopsT_step1 rfl fun KC => ?_) | (refine mopsT_step2 rfl fun KC => ?_) | (refine ACalls.start ?_; first | (refine ACalls.ofJi (hd1) rfl ?_) | (refine ACalls.ofJi (hd2) rfl ?_)) | (refine KV.run _ ?_) | (refine KT.run _ ?_) | (refine aops_callH rfl fun kC => ?_) | (simp only [bse, wk, tys, storeH_ptr, Nat.reduceEqDiff, ↓reduceIte, reduceCtorEq, Nat.reduceAdd, Nat.reduceLeDiff, Int.reduceBEq, Int.reduceLT, Int.reduceLE, Int.reduceEq, ne_eq, not_false_eq_true, Nat.reduceMul, refE_val, refE_sz, outE_val, outE_sz, txE_val, txE_sz, ruleE_val, ruleE_sz, *]))
      all_goals (first | exact ⟨rfl, rfl⟩ | (refine AtEH.mk (funext fun q => ?_) rfl; simp only [put, if_false]))
    have he2 := he1.out
    clear he1
    subst he2
    repeat' (first | (refine KT.run _ ?_) | (refine AWp.region ?_) | (simp only [bse, wk, tys, storeH_ptr, Nat.reduceEqDiff, ↓reduceIte, reduceCtorEq, Nat.reduceAdd, Nat.reduceLeDiff, Int.reduceBEq, Int.reduceLT, Int.reduceLE, Int.reduceEq, ne_eq, not_false_eq_true, Nat.reduceMul, refE_val, refE_sz, outE_val, outE_sz, txE_val, txE_sz, ruleE_val, ruleE_sz, *]))
    exact hJ.out _ _ ⟨ins.length - (k + 1), by omega, k + 1, ver + 1, _, by omega, rfl, rfl, by simp [put], rfl⟩ (by repeat (first | exact Agree.refl _ _ | assumption | refine Agree.put ?_ rfl _))
  · have hlt' : ¬ (k : Int) < (ins.length : Int) := by omega
    have hke : k = ins.length := by omega
    subst hke
    rw [List.take_length]
    have hb : BorL (⟨45, 0, [.int .i64 2, .int .i64 member, islE refE ins, islE outE outs], 0, true⟩ :: ⟨9, 1, [.string ⟨#[112, 97, 121]⟩, .string ⟨#[106, 111, 105, 110]⟩, .string ⟨#[108, 101, 97, 118, 101]⟩], 0, true⟩ :: ⟨9, 1, [.string ⟨#[108, 101, 97, 118, 101]⟩, .string (bs (Lib.itoa member))], 1, true⟩ :: ⟨9, 1, [.string (bs (Lib.itoa member))], 0, true⟩ :: ⟨9, 1, strE.flat (ins.map refS), ver, true⟩ :: G) [.slice (some ⟨4, 0, none⟩) ins.length ver, .string (bs [43])] [islE strE (ins.map refS), .string (bs [43])] :=
      .cons (Bor.sbE (E := strE) (ys := ins.map refS) rfl (fun _ => rfl) (by rw [List.length_map])) (.cons (.same _ (.flat _ rfl)) .nil)
    have hjo := fun (B : Nat) => ACalls.ofP (B := B) (k := fun d H' => d = .string (bs R1) ∧ ⟨45, 0, [.int .i64 2, .int .i64 member, islE refE ins, islE outE outs], 0, true⟩ :: ⟨9, 1, [.string ⟨#[112, 97, 121]⟩, .string ⟨#[106, 111, 105, 110]⟩, .string ⟨#[108, 101, 97, 118, 101]⟩], 0, true⟩ :: ⟨9, 1, [.string ⟨#[108, 101, 97, 118, 101]⟩, .string (bs (Lib.itoa member))], 1, true⟩ :: ⟨9, 1, [.string (bs (Lib.itoa member))], 0, true⟩ :: ⟨9, 1, strE.flat (ins.map refS), ver, true⟩ :: G = H') hj1 hb rfl ⟨rfl, rfl⟩
    have hap1 : appendH Tryz.prog 0 (⟨45, 0, [.int .i64 2, .int .i64 member, islE refE ins, islE outE outs], 0, true⟩ :: ⟨9, 1, [.string ⟨#[112, 97, 121]⟩, .string ⟨#[106, 111, 105, 110]⟩, .string ⟨#[108, 101, 97, 118, 101]⟩], 0, true⟩ :: ⟨9, 1, [.string ⟨#[108, 101, 97, 118, 101]⟩, .string (bs (Lib.itoa member))], 1, true⟩ :: ⟨9, 1, [.string (bs (Lib.itoa member))], 0, true⟩ :: ⟨9, 1, strE.flat (ins.map refS), ver, true⟩ :: (G ++ [⟨9, 1, [.string (bs R1)], 0, true⟩])) 22 22 (.slice (some ⟨2, 0, none⟩) 2 1) (.slice (some ⟨G.length + 5, 0, none⟩) 1 0) = some (.slice (some ⟨2, 0, none⟩) 3 2, ⟨45, 0, [.int .i64 2, .int .i64 member, islE refE ins, islE outE outs], 0, true⟩ :: ⟨9, 1, [.string ⟨#[112, 97, 121]⟩, .string ⟨#[106, 111, 105, 110]⟩, .string ⟨#[108, 101, 97, 118, 101]⟩], 0, true⟩ :: ⟨9, 1, [.string ⟨#[108, 101, 97, 118, 101]⟩, .string (bs (Lib.itoa member)), .string (bs R1)], 2, true⟩ :: ⟨9, 1, [.string (bs (Lib.itoa member))], 0, true⟩ :: ⟨9, 1, strE.flat (ins.map refS), ver, true⟩ :: (G ++ [⟨9, 1, [.string (bs R1)], 0, true⟩])) := by
      have := appendH_one (P := Tryz.prog) (B := 0) (E := strE) (H0 := ⟨45, 0, [.int .i64 2, .int .i64 member, islE refE ins, islE outE outs], 0, true⟩ :: ⟨9, 1, [.string ⟨#[112, 97, 121]⟩, .string ⟨#[106, 111, 105, 110]⟩, .string ⟨#[108, 101, 97, 118, 101]⟩], 0, true⟩ :: ⟨9, 1, [.string ⟨#[108, 101, 97, 118, 101]⟩, .string (bs (Lib.itoa member))], 1, true⟩ :: ⟨9, 1, [.string (bs (Lib.itoa member))], 0, true⟩ :: ⟨9, 1, strE.flat (ins.map refS), ver, true⟩ :: G) (ys := [bs [108, 101, 97, 118, 101], bs (Lib.itoa member)]) (bs R1) elZ22 elZ22 zOk22 (ver := 1) (r := 2) rfl (Nat.zero_le _) (by simp only [List.length_cons, List.length_nil]; decide) (by simp only [List.length_cons, List.length_nil]; decide)
      exact this
    clear hb hj1 hI hIr hR1 hlt hk
    repeat' (first | (refine ACalls.start ?_; first | (refine ACalls.get (hjo _) (by first | exact Nat.le_refl _ | exact Nat.zero_le _ | (simp only [List.length_append, List.length_cons, List.length_nil]; omega) | (simp only [List.length_set]; omega) | omega) (by first | exact Nat.le_refl _ | exact Nat.zero_le _ | (simp only [List.length_append, List.length_cons, List.length_nil]; omega) | (simp only [List.length_set]; omega) | omega) ?_; rintro _ _ ⟨rfl, rfl⟩)) | (refine KV.run _ ?_) | (refine KT.run _ ?_) | (refine AWp.seqH fun KC => ?_) | (refine AWp.block ?_) | (refine AWp.region ?_) | (refine AWp.exit ?_) | (refine aops_callH rfl fun kC => ?_) | (refine AWp.condB ?_) | (simp only [bse, wk, tys, storeH_ptr, Nat.reduceEqDiff, ↓reduceIte, reduceCtorEq, Nat.reduceAdd, Nat.reduceLeDiff, Int.reduceBEq, Int.reduceLT, Int.reduceLE, Int.reduceEq, ne_eq, not_false_eq_true, Nat.reduceMul, refE_val, refE_sz, outE_val, outE_sz, txE_val, txE_sz, ruleE_val, ruleE_sz, *]))
    clear hap1 hjo e5 e30 hlt'
    generalize ⟨9, 1, [.string (bs (Lib.itoa member))], 0, true⟩ :: ⟨9, 1, strE.flat (ins.map refS), ver, true⟩ :: (G ++ [⟨9, 1, [.string (bs R1)], 0, true⟩]) = GG
    refine AWp.loopH [55, 56, 57, 9, 58, 59, 60, 61, 62, 63, 64, 65, 66, 67, 68, 4, 69, 54] (fun m e' H' => ∃ (k ver : Nat) (G : AH), k ≤ outs.length ∧ m = outs.length - k ∧ e' 54 = .int .i64 k ∧ e' 4 = .slice (some ⟨2, 0, none⟩) (3 + k) ver ∧ H' = ⟨45, 0, [.int .i64 2, .int .i64 member, islE refE ins, islE outE outs], 0, true⟩ :: ⟨9, 1, [.string ⟨#[112, 97, 121]⟩, .string ⟨#[106, 111, 105, 110]⟩, .string ⟨#[108, 101, 97, 118, 101]⟩], 0, true⟩ :: ⟨9, 1, strE.flat ([bs [108, 101, 97, 118, 101], bs (Lib.itoa member), bs R1] ++ (outs.take k).map outS), ver, true⟩ :: G) outs.length ⟨0, 2, _, by omega, by omega, rfl, rfl, rfl⟩ ?_
    rintro m e' H' hA ⟨k, ver, G, hk, rfl, e54, e4, rfl⟩ hJ
    have a2 := hA 2 rfl; have a3 := hA 3 rfl; have a52 := hA 52 rfl; have a53 := hA 53 rfl; try simp only [bse, wk, tys, storeH_ptr, Nat.reduceEqDiff, ↓reduceIte, reduceCtorEq, Nat.reduceAdd, Nat.reduceLeDiff, Int.reduceBEq, Int.reduceLT, Int.reduceLE, Int.reduceEq, ne_eq, not_false_eq_true, Nat.reduceMul] at a2 a3 a52 a53; clear hA
    by_cases hlt : k < outs.length
    · have hlt' : (k : Int) < (outs.length : Int) := by omega
      have hw := wr_succ (k := k) (by omega)
      have hx := hO outs[k] (List.getElem_mem hlt)
      have hkl : ([bs [108, 101, 97, 118, 101], bs (Lib.itoa member), bs R1] ++ (outs.take k).map outS).length = 3 + k := by simp only [List.length_append, List.length_cons, List.length_nil, List.length_map, List.length_take]; omega
      have hap := appendH_one (P := Tryz.prog) (B := 0) (E := strE) (H0 := ⟨45, 0, [.int .i64 2, .int .i64 member, islE refE ins, islE outE outs], 0, true⟩ :: ⟨9, 1, [.string ⟨#[112, 97, 121]⟩, .string ⟨#[106, 111, 105, 110]⟩, .string ⟨#[108, 101, 97, 118, 101]⟩], 0, true⟩ :: ⟨9, 1, strE.flat ([bs [108, 101, 97, 118, 101], bs (Lib.itoa member), bs R1] ++ (outs.take k).map outS), ver, true⟩ :: (G ++ [⟨120, 0, [.int .i64 outs[k].value, islE intE outs[k].rule.keys, .int .i64 outs[k].rule.need, .int .i64 outs[k].rule.after], 0, true⟩])) (ys := [bs [108, 101, 97, 118, 101], bs (Lib.itoa member), bs R1] ++ (outs.take k).map outS) (outS outs[k]) elZ22 elZ22 zOk22 (r := 2) rfl (Nat.zero_le _) (by rw [hkl]; omega) (by rw [hkl]; omega)
      have hst : ([bs [108, 101, 97, 118, 101], bs (Lib.itoa member), bs R1] ++ (outs.take k).map outS) ++ [outS outs[k]] = [bs [108, 101, 97, 118, 101], bs (Lib.itoa member), bs R1] ++ (outs.take (k + 1)).map outS := by rw [List.append_assoc, ← map_step outS outs k hlt]
      rw [hst, hkl] at hap
      clear hst
      simp only [List.length_append, List.cons_append, List.length_cons, List.set_cons_succ, List.set_cons_zero, strE_sz, strE_val, cells_str, List.length_nil, Nat.zero_add, List.append_assoc, List.nil_append] at hap
      have hoS : Value.string (outS outs[k]) = .string (bs (outT outs[k])) := rfl
      rw [hoS] at hap
      clear hoS
      have hd1 : PCalls Tryz.prog 93 [.int .i64 outs[k].value] (.string (bs (Lib.itoa outs[k].value))) := lib_dec _ (by omega) (by omega)
      have hrt := impl_ruleText outs[k].rule 95 hx.2
      have q1 := itoa_len7 (x := outs[k].value) (by omega) (by omega)
      have q2 := ruleT_len 95 hx.2
      have a1 : ∀ xo yo, binS Tryz.prog .add 9 xo yo (.string (bs (Lib.itoa outs[k].value))) (.string ⟨#[61]⟩) = some (.string (bs (Lib.itoa outs[k].value ++ [61]))) := fun xo yo => bin_sadd _ _ _ (Lib.itoa outs[k].value) [61] (by simp; omega)
      have a2 : ∀ xo yo, binS Tryz.prog .add 9 xo yo (.string (bs (Lib.itoa outs[k].value ++ [61]))) (.string (bs (ruleT 95 outs[k].rule))) = some (.string (bs (outT outs[k]))) := fun xo yo => bin_sadd _ _ _ (Lib.itoa outs[k].value ++ [61]) (ruleT 95 outs[k].rule) (by simp; omega)
      clear hkl hO hOr hj2 hx q1 q2
      repeat' (first | (refine KT.run _ ?_) | (refine AWp.seqH fun KC => ?_) | (refine AWp.block ?_) | (refine AWp.region ?_) | (refine AWp.skip ?_) | (refine AWp.condB ?_) | (simp only [bse, wk, tys, storeH_ptr, Nat.reduceEqDiff, ↓reduceIte, reduceCtorEq, Nat.reduceAdd, Nat.reduceLeDiff, Int.reduceBEq, Int.reduceLT, Int.reduceLE, Int.reduceEq, ne_eq, not_false_eq_true, Nat.reduceMul, refE_val, refE_sz, outE_val, outE_sz, txE_val, txE_sz, ruleE_val, ruleE_sz, *]))
      refine AWp.mixedT (id := 14) (.cons 0 0 (.cons 1 0 (.cons 2 0 (.cons 5 0 (.cons 6 0 (.cons 3 1 (.cons 4 0 (.cons 7 1 (.cons 8 0 (.cons 9 1 (.cons 10 2 (.cons 11 0 .nil)))))))))))) (by kernel_rfl) (by kernel_rfl) ?_
      refine mopsT_abs fun e0 he0 => ?_
      have r4 := congrFun he0 4
      have r9 := congrFun he0 9
      try simp only [bse, wk, tys, storeH_ptr, Nat.reduceEqDiff, ↓reduceIte, reduceCtorEq, Nat.reduceAdd, Nat.reduceLeDiff, Int.reduceBEq, Int.reduceLT, Int.reduceLE, Int.reduceEq, ne_eq, not_false_eq_true, Nat.reduceMul, refE_val, refE_sz, outE_val, outE_sz, txE_val, txE_sz, ruleE_val, ruleE_sz] at r4 r9
      have he1 : Hid _ := he0
      clear he0
      apply mopsT_cut
      case h1 =>
        repeat' (first | (refine mopsT_step0 rfl rfl fun KC => ?_) | (refine mopsT_step1 rfl fun KC => ?_) | (refine mopsT_step2 rfl fun KC => ?_) | (refine ACalls.start ?_; first | (refine ACalls.ofJi (hd1) rfl ?_) | (refine ACalls.ofJi (hrt) rfl ?_)) | (refine KV.run _ ?_) | (refine KT.run _ ?_) | (refine aops_callH rfl fun kC => ?_) | (simp only [bse, wk, tys, storeH_ptr, Nat.reduceEqDiff, ↓reduceIte, reduceCtorEq, Nat.reduceAdd, Nat.reduceLeDiff, Int.reduceBEq, Int.reduceLT, Int.reduceLE, Int.reduceEq, ne_eq, not_false_eq_true, Nat.reduceMul, refE_val, refE_sz, outE_val, outE_sz, txE_val, txE_sz, ruleE_val, ruleE_sz, *]))
        all_goals (first | exact ⟨rfl, rfl⟩ | (refine AtEH.mk (funext fun q => ?_) rfl; simp only [put, if_false]))
      have he2 := he1.out
      clear he1
      subst he2
      repeat' (first | (refine KT.run _ ?_) | (refine AWp.region ?_) | (simp only [bse, wk, tys, storeH_ptr, Nat.reduceEqDiff, ↓reduceIte, reduceCtorEq, Nat.reduceAdd, Nat.reduceLeDiff, Int.reduceBEq, Int.reduceLT, Int.reduceLE, Int.reduceEq, ne_eq, not_false_eq_true, Nat.reduceMul, refE_val, refE_sz, outE_val, outE_sz, txE_val, txE_sz, ruleE_val, ruleE_sz, *]))
      exact hJ.out _ _ ⟨outs.length - (k + 1), by omega, k + 1, ver + 1, _, by omega, rfl, rfl, by simp [put]; rfl, rfl⟩ (by repeat (first | exact Agree.refl _ _ | assumption | refine Agree.put ?_ rfl _))
    · have hlt' : ¬ (k : Int) < (outs.length : Int) := by omega
      have hke : k = outs.length := by omega
      subst hke
      rw [List.take_length]
      have hb : BorL (⟨45, 0, [.int .i64 2, .int .i64 member, islE refE ins, islE outE outs], 0, true⟩ :: ⟨9, 1, [.string ⟨#[112, 97, 121]⟩, .string ⟨#[106, 111, 105, 110]⟩, .string ⟨#[108, 101, 97, 118, 101]⟩], 0, true⟩ :: ⟨9, 1, strE.flat ([bs [108, 101, 97, 118, 101], bs (Lib.itoa member), bs R1] ++ outs.map outS), ver, true⟩ :: G) [.slice (some ⟨2, 0, none⟩) (3 + outs.length) ver, .string (bs [32])] [islE strE ([bs [108, 101, 97, 118, 101], bs (Lib.itoa member), bs R1] ++ outs.map outS), .string (bs [32])] :=
        .cons (Bor.sbE (E := strE) (ys := [bs [108, 101, 97, 118, 101], bs (Lib.itoa member), bs R1] ++ outs.map outS) rfl (fun _ => rfl) (by simp only [List.length_append, List.length_cons, List.length_nil, List.length_map])) (.cons (.same _ (.flat _ rfl)) .nil)
      have hjo := fun (B : Nat) => ACalls.ofP (B := B) (k := fun d H' => d = .string (bs T) ∧ ⟨45, 0, [.int .i64 2, .int .i64 member, islE refE ins, islE outE outs], 0, true⟩ :: ⟨9, 1, [.string ⟨#[112, 97, 121]⟩, .string ⟨#[106, 111, 105, 110]⟩, .string ⟨#[108, 101, 97, 118, 101]⟩], 0, true⟩ :: ⟨9, 1, strE.flat ([bs [108, 101, 97, 118, 101], bs (Lib.itoa member), bs R1] ++ outs.map outS), ver, true⟩ :: G = H') hj2 hb rfl ⟨rfl, rfl⟩
      clear hb hj2 hO hOr hlt hk hrs rs
      by_cases h300 : 300 < T.length
      · have h3' : (300 : Int) < (T.length : Int) := by omega
        have h3H : Hid _ := h300
        clear h300
        repeat' (first | (refine ACalls.start ?_; first | (refine ACalls.get (hjo _) (by first | exact Nat.le_refl _ | exact Nat.zero_le _ | (simp only [List.length_append, List.length_cons, List.length_nil]; omega) | (simp only [List.length_set]; omega) | omega) (by first | exact Nat.le_refl _ | exact Nat.zero_le _ | (simp only [List.length_append, List.length_cons, List.length_nil]; omega) | (simp only [List.length_set]; omega) | omega) ?_; rintro _ _ ⟨rfl, rfl⟩)) | (refine KV.run _ ?_) | (refine KT.run _ ?_) | (refine AWp.seqH fun KC => ?_) | (refine AWp.region ?_) | (refine AWp.ret ?_) | (refine AWp.exit ?_) | (refine aops_callH rfl fun kC => ?_) | (refine AWp.condB ?_) | (simp only [bse, wk, tys, storeH_ptr, Nat.reduceEqDiff, ↓reduceIte, reduceCtorEq, Nat.reduceAdd, Nat.reduceLeDiff, Int.reduceBEq, Int.reduceLT, Int.reduceLE, Int.reduceEq, ne_eq, not_false_eq_true, Nat.reduceMul, refE_val, refE_sz, outE_val, outE_sz, txE_val, txE_sz, ruleE_val, ruleE_sz, *]))
        all_goals rw [if_pos h3H.out, if_pos h3H.out]
      · have h3' : ¬ (300 : Int) < (T.length : Int) := by omega
        have h3H : Hid _ := h300
        clear h300
        repeat' (first | (refine ACalls.start ?_; first | (refine ACalls.get (hjo _) (by first | exact Nat.le_refl _ | exact Nat.zero_le _ | (simp only [List.length_append, List.length_cons, List.length_nil]; omega) | (simp only [List.length_set]; omega) | omega) (by first | exact Nat.le_refl _ | exact Nat.zero_le _ | (simp only [List.length_append, List.length_cons, List.length_nil]; omega) | (simp only [List.length_set]; omega) | omega) ?_; rintro _ _ ⟨rfl, rfl⟩)) | (refine KV.run _ ?_) | (refine KT.run _ ?_) | (refine AWp.seqH fun KC => ?_) | (refine AWp.region ?_) | (refine AWp.ret ?_) | (refine AWp.skip ?_) | (refine AWp.exit ?_) | (refine aops_callH rfl fun kC => ?_) | (refine AWp.condB ?_) | (simp only [bse, wk, tys, storeH_ptr, Nat.reduceEqDiff, ↓reduceIte, reduceCtorEq, Nat.reduceAdd, Nat.reduceLeDiff, Int.reduceBEq, Int.reduceLT, Int.reduceLE, Int.reduceEq, ne_eq, not_false_eq_true, Nat.reduceMul, refE_val, refE_sz, outE_val, outE_sz, txE_val, txE_sz, ruleE_val, ruleE_sz, *]))
        all_goals rw [if_neg h3H.out, if_neg h3H.out]
theorem impl_txText (t : TTx) (h0 : txFault t = 0) : PCalls Tryz.prog 87 [txE.val t] (.tuple #[.string (if 300 < (txT t).length then bs [] else bs (txT t)), .int .i64 (if 300 < (txT t).length then 2 else 0)]) := by
  obtain ⟨hk, _⟩ := tx_bounds h0
  obtain ⟨kind, member, ins, outs⟩ := t
  dsimp only at hk
  have h3 : kind = 0 ∨ kind = 1 ∨ kind = 2 := by omega
  rcases h3 with rfl | rfl | rfl
  · exact txText0 member ins outs h0 _ rfl
  · exact txText1 member ins outs h0 _ rfl
  · exact txText2 member ins outs h0 _ rfl
end Go.BM
