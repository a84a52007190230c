/- The tied card of FnExactTxIn: at every input the law returns true and the arguments read as before, so the program's TxIn answers as the reference's; conditions: those of the given row (the listed library variables are laid as it says). Packed: K41, U4, D3, M4, U10, V1, V2, U11, K42, K12, R1, R4, LFnExactTxIn. -/
import Derived.Test.YtboephigjgncaaaGreatDoorRows
import Derived.SizedLaws
import Derived.Handed
import Derived.LaidMore
import Derived.OpenShut
import Derived.Stop.LaidErr
import Derived.Shelf.Vars
import Derived.Lib.LaidTab
import Derived.Test.YtboephigjgncaaaGreatDoorCards
import Derived.Test.YtboephigjgncaaaGreatDoorTie
import Derived.SevenTiedAt
import Derived.Lay
import Derived.WalkKit
import Derived.ProofKit
import Derived.Test.YtboephigjgncaaaGreatDoorZ2
import Derived.Test.YtboephigjgncaaaGreatDoorZ3
import Derived.Test.YtboephigjgncaaaGreatDoorZ4
import Derived.Test.YtboephigjgncaaaGreatDoorZ5
import Derived.Test.YtboephigjgncaaaGreatDoorZ6
import Derived.Test.YtboephigjgncaaaGreatDoorZ8
import Derived.Test.YtboephigjgncaaaGreatDoorZ10
/- TxIn: the reference. -/
set_option linter.unusedVariables false
set_option linter.unusedSimpArgs false
set_option maxRecDepth 100000
set_option maxHeartbeats 4000000
namespace Go.BM
open Go.Proofs Go.RowKit
attribute [local irreducible] ACalls AWp aops qops optK optP cK gateA condK mops qcallK PCalls loadV fldV idxV lenV slV storeH binS
theorem parRT_read (t : List UInt8) (h : t.length ≤ 300) : parRT t = if (readT t).2 then ⟨0, (readT t).1⟩ else ⟨5, tx0⟩ := by
  unfold parRT
  rw [par_readT t h]
  cases (readT t).2 <;> rfl
theorem spec_TxIn (l : TLedger) (id : Int) (h : nLedger l ≤ 1048576) : PCalls Tryz.prog 14 [ledgerE.val l, .int .i64 id] (txResultE.val (txInF l id)) := by
  have ht := spec_TextOf l id h
  unfold textOfF at ht
  unfold txInF txInP
  cases hf : (ledgerFault l == 0) with
  | false =>
    rw [hf] at ht
    simp only [Bool.false_eq_true, if_false] at ht
    simp only [Bool.not_false, if_true]
    generalize ledgerFault l = F at hf ht ⊢
    clear h
    refine PCalls.of ?_; refine ACalls.enter (n := 18) (rs := [.cell 4 47]) Tryz.func14 rfl rfl rfl (by kernel_rfl) (by kernel_rfl) (by kernel_rfl) (Nat.le_of_ble_eq_true rfl) ?_
    repeat' (first | (refine ACalls.start ?_; first | (refine ACalls.ofJi (ht) rfl ?_)) | (refine KV.run _ ?_) | (refine KT.run _ ?_) | (refine AWp.seqH fun KC => ?_) | (refine AWp.region ?_) | (refine AWp.ret ?_) | (refine aops_callH rfl fun kC => ?_) | (refine AWp.condB ?_) | (simp only [bse, wk, tys, storeH_ptr, Nat.reduceEqDiff, ↓reduceIte, reduceCtorEq, Nat.reduceAdd, Nat.reduceLeDiff, Int.reduceBEq, Int.reduceLT, Int.reduceLE, Int.reduceEq, ne_eq, not_false_eq_true, Nat.reduceMul, txE_val, txE_sz, txResultE_val, txResultE_sz, ledgerE_val, ledgerE_sz, textResultE_val, textResultE_sz, *]))
    exact Bor.aggL (.cons (.same _ (.flat _ rfl)) (.cons (.same _ (.flat _ rfl)) (.cons (.same _ (.flat _ rfl)) (.cons .nil (.cons .nil .nil)))))
  | true =>
    rw [hf] at ht
    simp only [if_true] at ht
    simp only [Bool.not_true, Bool.false_eq_true, if_false]
    cases hc : inB id 1 l.texts.length with
    | false =>
      simp only [hc, Bool.false_eq_true, if_false] at ht
      simp only [Bool.not_false, if_true]
      clear h hc hf
      refine PCalls.of ?_; refine ACalls.enter (n := 18) (rs := [.cell 4 47]) Tryz.func14 rfl rfl rfl (by kernel_rfl) (by kernel_rfl) (by kernel_rfl) (Nat.le_of_ble_eq_true rfl) ?_
      repeat' (first | (refine ACalls.start ?_; first | (refine ACalls.ofJi (ht) rfl ?_)) | (refine KV.run _ ?_) | (refine KT.run _ ?_) | (refine AWp.seqH fun KC => ?_) | (refine AWp.region ?_) | (refine AWp.ret ?_) | (refine aops_callH rfl fun kC => ?_) | (refine AWp.condB ?_) | (simp only [bse, wk, tys, storeH_ptr, Nat.reduceEqDiff, ↓reduceIte, reduceCtorEq, Nat.reduceAdd, Nat.reduceLeDiff, Int.reduceBEq, Int.reduceLT, Int.reduceLE, Int.reduceEq, ne_eq, not_false_eq_true, Nat.reduceMul, txE_val, txE_sz, txResultE_val, txResultE_sz, ledgerE_val, ledgerE_sz, textResultE_val, textResultE_sz, *]))
      exact Bor.aggL (.cons (.same _ (.flat _ rfl)) (.cons (.same _ (.flat _ rfl)) (.cons (.same _ (.flat _ rfl)) (.cons .nil (.cons .nil .nil)))))
    | true =>
      simp only [hc, if_true] at ht
      simp only [Bool.not_true, Bool.false_eq_true, if_false]
      have hsz := getS_size (eq_of_beq hf) hc
      have hln : (getS l.texts id).data.toList.length = (getS l.texts id).size := Array.length_toList
      have hpb := spec_ParseTx (getS l.texts id).data.toList (by omega)
      have hrr := parRT_read (getS l.texts id).data.toList (by omega)
      have hg : (⟨(if (readT (getS l.texts id).data.toList).2 then ((readT (getS l.texts id).data.toList).1, (0 : Int)) else (tx0, 5)).2, (if (readT (getS l.texts id).data.toList).2 then ((readT (getS l.texts id).data.toList).1, (0 : Int)) else (tx0, 5)).1⟩ : TTxResult) = parRT (getS l.texts id).data.toList := by
        rw [hrr]
        cases (readT (getS l.texts id).data.toList).2 <;> rfl
      rw [hg]
      rw [bs_of] at hpb
      clear hg hrr hln hsz hc hf h
      generalize parRT (getS l.texts id).data.toList = R at hpb ⊢
      generalize getS l.texts id = T at ht hpb
      refine PCalls.of ?_; refine ACalls.enter (n := 18) (rs := [.cell 4 47]) Tryz.func14 rfl rfl rfl (by kernel_rfl) (by kernel_rfl) (by kernel_rfl) (Nat.le_of_ble_eq_true rfl) ?_
      repeat' (first | (refine ACalls.start ?_; first | (refine ACalls.ofJi (ht) rfl ?_) | (refine ACalls.ofJi (hpb) rfl ?_)) | (refine KV.run _ ?_) | (refine KT.run _ ?_) | (refine AWp.seqH fun KC => ?_) | (refine AWp.region ?_) | (refine AWp.ret ?_) | (refine AWp.skip ?_) | (refine aops_callH rfl fun kC => ?_) | (refine AWp.condB ?_) | (simp only [bse, wk, tys, storeH_ptr, Nat.reduceEqDiff, ↓reduceIte, reduceCtorEq, Nat.reduceAdd, Nat.reduceLeDiff, Int.reduceBEq, Int.reduceLT, Int.reduceLE, Int.reduceEq, ne_eq, not_false_eq_true, Nat.reduceMul, txE_val, txE_sz, txResultE_val, txResultE_sz, ledgerE_val, ledgerE_sz, textResultE_val, textResultE_sz, *]))
      all_goals first | exact .same _ (Enc.val_im txResultE R) | skip
end Go.BM
/- Who owns what: slices and structs of the laws. -/
set_option linter.unusedVariables false
set_option linter.unusedSimpArgs false
set_option maxRecDepth 100000
set_option maxHeartbeats 4000000
namespace Go.BM
open Go.Proofs Go.RowKit
attribute [local irreducible] ACalls AWp aops qops optK optP cK gateA condK mops qcallK PCalls loadV fldV idxV lenV slV storeH binS
theorem mko_StringS (xs : List ByteArray) (hn : xs.length ≤ 1048576) : MCalls0 Tryz.prog 30 (islE strE xs) (xs.length) := by
  have := MCalls0.ofSl (P := Tryz.prog) (f := 30) (E := strE) (xs := xs) (mk := fun k n => marksS mt k n) (fun _ _ => marksS_len _ _ _) (fun k n => marksS_flat _ k n) (strE_flat xs) laws_markStringS0
    (fun H r ver el sz cs sp k hb hl hk hk2 => by
      simp only [strE_sz, Nat.mul_one] at hl ⊢
      exact laws_markStringS 0 H r xs.length ver el sz cs true sp k hb hl (fun _ => rfl) (Nat.zero_le _) hk hk2 hn)
  simpa only [strE_sz, Nat.mul_one] using this

theorem mko_SignS (xs : List TSign) (hn : xs.length ≤ 1048576) : MCalls0 Tryz.prog 31 (islE signE xs) (xs.length * 2) := by
  have := MCalls0.ofSl (P := Tryz.prog) (f := 31) (E := signE) (xs := xs) (mk := fun k n => marksC k n) (fun _ _ => marksC_len _ _) (fun k n => marksC_flat k n) (signE_flat xs) laws_markSignS0
    (fun H r ver el sz cs sp k hb hl hk hk2 => by
      simp only [signE_sz, Nat.mul_one] at hl ⊢
      exact laws_markSignS 0 H r xs.length ver el sz cs true sp k hb hl (fun _ => rfl) (Nat.zero_le _) hk hk2 hn)
  simpa only [signE_sz, Nat.mul_one] using this

theorem mko_Ledger (x : TLedger) (hn : nLedger x ≤ 1048576) : MCalls0 Tryz.prog 11 (ledgerE.val x) (mLedger x) := by
  unfold nLedger at hn
  unfold mLedger
  intro H d S k ho hnd hk hk2
  rw [ledgerE_val] at ho
  obtain ⟨xs, rfl, o⟩ := OwnL.aggI ho
  clear ho
  obtain ⟨d_0, m_0, S_0, R_0, rfl, rfl, p_0, o_n1⟩ := OwnL.consI o
  obtain ⟨a_0, n_0, v_0, rfl⟩ := OwnL.slD p_0
  obtain ⟨d_1, m_1, S_1, R_1, rfl, rfl, p_1, o_n2⟩ := OwnL.consI o_n1
  obtain ⟨a_1, n_1, v_1, rfl⟩ := OwnL.slD p_1
  obtain ⟨rfl, rfl⟩ := OwnL.nilI o_n2
  have hc : Cx H [(.slice a_0 n_0 v_0, islE strE x.texts, S_0), (.slice a_1 n_1 v_1, islE signE x.signs, S_1)] [] := ⟨by intro o ho; simp only [List.mem_cons, List.not_mem_nil, or_false] at ho; rcases ho with rfl | rfl <;> first | exact p_0 | exact p_1, by simpa using hnd, by simp⟩
  refine ACalls.enter (n := 14) (rs := [.tmp 4]) Tryz.func11 rfl rfl rfl (by kernel_rfl) (by kernel_rfl) (by kernel_rfl) (Nat.le_of_ble_eq_true rfl) ?_
  repeat' (first | (refine KT.run _ ?_) | (refine AWp.seqH fun KC => ?_) | (refine AWp.region ?_) | (refine aops_callH rfl fun kC => ?_) | (simp only [bse, wk, tys, storeH_ptr, Nat.reduceEqDiff, ↓reduceIte, reduceCtorEq, Nat.reduceAdd, Nat.reduceLeDiff, Int.reduceBEq, Int.reduceLT, Int.reduceLE, Int.reduceEq, ne_eq, not_false_eq_true, Nat.reduceMul, ledgerE_val, ledgerE_sz, *]))
  refine ACalls.get (mko_StringS x.texts (by have := nStrS_len x.texts; omega) _ _ _ (k) ((hc.push _).get 0 rfl) (hc.getNd 0 rfl) (by omega) (by omega)) (by first | exact Nat.le_refl _ | exact Nat.zero_le _ | (simp only [List.length_append, List.length_cons, List.length_nil]; omega) | (simp only [List.length_set]; omega) | omega) (by first | exact Nat.le_refl _ | exact Nat.zero_le _ | (simp only [List.length_append, List.length_cons, List.length_nil]; omega) | (simp only [List.length_set]; omega) | omega) ?_
  rintro _ H0 ⟨rfl, hM0⟩
  obtain ⟨y0, hc0⟩ := (hc.push _).mark0 0 rfl hM0
  have hb0 := hc0.bx 0 rfl
  repeat' (first | (refine KV.run _ ?_) | (refine KT.run _ ?_) | (refine AWp.seqH fun KC => ?_) | (refine AWp.region ?_) | (refine aops_callH rfl fun kC => ?_) | (simp only [bse, wk, tys, storeH_ptr, Nat.reduceEqDiff, ↓reduceIte, reduceCtorEq, Nat.reduceAdd, Nat.reduceLeDiff, Int.reduceBEq, Int.reduceLT, Int.reduceLE, Int.reduceEq, ne_eq, not_false_eq_true, Nat.reduceMul, ledgerE_val, ledgerE_sz, *]))
  refine ACalls.get (mko_SignS x.signs (by omega) _ _ _ (k + ((x.texts.length : Nat) : Int)) (hc0.get 1 rfl) (hc.getNd 1 rfl) (by omega) (by omega)) (by first | exact Nat.le_refl _ | exact Nat.zero_le _ | (simp only [List.length_append, List.length_cons, List.length_nil]; omega) | (simp only [List.length_set]; omega) | omega) (by first | exact Nat.le_refl _ | exact Nat.zero_le _ | (simp only [List.length_append, List.length_cons, List.length_nil]; omega) | (simp only [List.length_set]; omega) | omega) ?_
  rintro _ H1 ⟨rfl, hM1⟩
  obtain ⟨y1, hc1⟩ := hc0.mark0 1 rfl hM1
  have hb1 := hc1.bx 0 rfl
  repeat' (first | (refine KV.run _ ?_) | (refine KT.run _ ?_) | (refine AWp.seqH fun KC => ?_) | (refine AWp.region ?_) | (refine AWp.ret ?_) | (simp only [bse, wk, tys, storeH_ptr, Nat.reduceEqDiff, ↓reduceIte, reduceCtorEq, Nat.reduceAdd, Nat.reduceLeDiff, Int.reduceBEq, Int.reduceLT, Int.reduceLE, Int.reduceEq, ne_eq, not_false_eq_true, Nat.reduceMul, ledgerE_val, ledgerE_sz, *]))
  obtain ⟨k0, cs0, _, _, _, e0, _, _, _⟩ := OwnL.slY (hc1.get 0 rfl)
  cases e0
  haveI im0 : ImC (isl k0 cs0) := ⟨(hc1.get 0 rfl).im1⟩
  obtain ⟨k1, cs1, _, _, _, e1, _, _, _⟩ := OwnL.slY (hc1.get 1 rfl)
  cases e1
  haveI im1 : ImC (isl k1 cs1) := ⟨(hc1.get 1 rfl).im1⟩
  have ek : k + ((x.texts.length : Nat) : Int) + ((x.signs.length * 2 : Nat) : Int) = k + ((x.texts.length + x.signs.length * 2 : Nat) : Int) := by omega
  try rw [ek]
  try (refine And.intro ?_ ?_; focus (first | rfl | omega | (congr 1; omega)))
  refine ⟨by have := hM0.len; have := hM1.len; simp only [List.length_append, List.length_cons, List.length_nil] at *; omega, fun r hr hs => (hM1.old r (by have := hM0.len; have := hM1.len; simp only [List.length_append, List.length_cons, List.length_nil] at *; omega) (fun h => hs (by first | exact h | (simp at h ⊢; grind)))).trans ((hM0.old r (by have := hM0.len; have := hM1.len; simp only [List.length_append, List.length_cons, List.length_nil] at *; omega) (fun h => hs (by first | exact h | (simp at h ⊢; grind)))).trans (List.getElem?_append_left hr)), .agg #[isl k0 cs0, isl k1 cs1], ?_⟩
  have hS : OwnL true H1 [.agg #[.slice a_0 n_0 v_0, .slice a_1 n_1 v_1]] [.agg #[isl k0 cs0, isl k1 cs1]] _ := OwnL.aggL (OwnL.append (hc1.get 0 rfl) (OwnL.append (hc1.get 1 rfl) (.nil)))
  first | exact hS | simpa using hS
end Go.BM
/- Data: flat structs, their slices. -/
set_option linter.unusedVariables false
set_option linter.unusedSimpArgs false
set_option maxRecDepth 100000
set_option maxHeartbeats 4000000
namespace Go.BM
open Go.Proofs Go.RowKit
attribute [local irreducible] ACalls AWp aops qops optK optP cK gateA condK mops qcallK PCalls loadV fldV idxV lenV slV storeH binS

theorem laws_eqRefS (xs : List TRef) (hn : xs.length ≤ 1000000000000) : PCalls Tryz.prog 57 [islE refE xs, islE refE xs] (.bool true) := by
  refine PCalls.flat rfl ?_; refine ACalls.enter (n := 27) (rs := [.tmp 4]) Tryz.func57 rfl rfl rfl (by kernel_rfl) (by kernel_rfl) (by kernel_rfl) (Nat.le_of_ble_eq_true rfl) ?_
  repeat' (first | (refine KT.run _ ?_) | (refine AWp.seqH fun KC => ?_) | (refine AWp.block ?_) | (refine AWp.region ?_) | (refine AWp.skip ?_) | (refine AWp.condB ?_) | (simp only [bse, wk, tys, storeH_ptr, Nat.reduceEqDiff, ↓reduceIte, reduceCtorEq, Nat.reduceAdd, Nat.reduceLeDiff, Int.reduceBEq, Int.reduceLT, Int.reduceLE, Int.reduceEq, ne_eq, not_false_eq_true, Nat.reduceMul, refE_val, refE_sz, *]))
  refine AWp.loopH [11, 12, 13, 14, 17, 18, 19, 20, 21, 22, 23, 24, 25, 26, 4, 15, 16, 5] (fun m e' H' => ∃ k : Nat, k ≤ xs.length ∧ m = xs.length - k ∧ e' 5 = .int .i64 k ∧ H' = []) xs.length ⟨0, by omega, by omega, rfl, rfl⟩ ?_
  rintro m e' H' hA ⟨k, hk, rfl, h5, rfl⟩ hJ
  have a0 := hA 0 rfl; have a1 := hA 1 rfl; try simp only [bse, wk, tys, storeH_ptr, Nat.reduceEqDiff, ↓reduceIte, reduceCtorEq, Nat.reduceAdd, Nat.reduceLeDiff, Int.reduceBEq, Int.reduceLT, Int.reduceLE, Int.reduceEq, ne_eq, not_false_eq_true, Nat.reduceMul] at a0 a1; clear hA
  by_cases hlt : k < xs.length
  · have hlt' : (k : Int) < (xs.length : Int) := by omega
    have hw := wr_succ (k := k) (by omega)
    repeat' (first | (refine AWp.quiet (id := 6) (by kernel_rfl) (by kernel_rfl) ?_) | (refine qcall_start ?_; first | (refine qcallFi (laws_eqRef _) rfl ?_ ?_; (focus ((first | exact rfl | (simp [pureV, flatV, refE_val, refE_sz]; done)))))) | (refine KQ.run _ ?_) | (refine KT.run _ ?_) | (refine AWp.seqH fun KC => ?_) | (refine AWp.block ?_) | (refine AWp.region ?_) | (refine AWp.skip ?_) | (refine qops_callH rfl fun kC => ?_) | (refine AWp.condB ?_) | (simp only [bse, wk, tys, storeH_ptr, Nat.reduceEqDiff, ↓reduceIte, reduceCtorEq, Nat.reduceAdd, Nat.reduceLeDiff, Int.reduceBEq, Int.reduceLT, Int.reduceLE, Int.reduceEq, ne_eq, not_false_eq_true, Nat.reduceMul, refE_val, refE_sz, *]))
    exact hJ.out _ _ ⟨xs.length - (k + 1), by omega, k + 1, by omega, rfl, rfl, rfl⟩ (by repeat (first | exact Agree.refl _ _ | assumption | refine Agree.put ?_ rfl _))
  · have hlt' : ¬ (k : Int) < (xs.length : Int) := by omega
    repeat' (first | (refine KT.run _ ?_) | (refine AWp.seqH fun KC => ?_) | (refine AWp.region ?_) | (refine AWp.ret ?_) | (refine AWp.exit ?_) | (refine AWp.condB ?_) | (simp only [bse, wk, tys, storeH_ptr, Nat.reduceEqDiff, ↓reduceIte, reduceCtorEq, Nat.reduceAdd, Nat.reduceLeDiff, Int.reduceBEq, Int.reduceLT, Int.reduceLE, Int.reduceEq, ne_eq, not_false_eq_true, Nat.reduceMul, refE_val, refE_sz, *]))

end Go.BM
/- Data: flat structs, their slices. -/
set_option linter.unusedVariables false
set_option linter.unusedSimpArgs false
set_option maxRecDepth 100000
set_option maxHeartbeats 4000000
namespace Go.BM
open Go.Proofs Go.RowKit
attribute [local irreducible] ACalls AWp aops qops optK optP cK gateA condK mops qcallK PCalls loadV fldV idxV lenV slV storeH binS

theorem laws_markRefS (B : Nat) (H : AH) (r n ver el sz : Nat) (cs : List Value) (o : Bool) (sp : Option Nat) (k : Int) (hb : H[r]? = some ⟨el, sz, cs, ver, o⟩) (hl : cs.length = n * 2) (ho : n ≠ 0 → o = true) (hB : B ≤ r) (hk : 0 ≤ k) (hk2 : k ≤ 1000000000000000) (hn : n ≤ 1048576) :
    ACalls Tryz.prog B 59 [.slice (some ⟨r, 0, sp⟩) n ver, .int .i64 k] H fun d H' => d = .int .i64 (k + (n * 2 : Nat)) ∧ H' = H.set r ⟨el, sz, marksC k (n * 2), ver, o⟩ := by
  have hr := lt_of_some hb
  refine ACalls.enter (n := 27) (rs := [.tmp 4]) Tryz.func59 rfl rfl rfl (by kernel_rfl) (by kernel_rfl) (by kernel_rfl) (Nat.le_of_ble_eq_true rfl) ?_
  repeat' (first | (refine KT.run _ ?_) | (refine AWp.seqH fun KC => ?_) | (refine AWp.block ?_) | (refine AWp.region ?_) | (simp only [bse, wk, tys, storeH_ptr, Nat.reduceEqDiff, ↓reduceIte, reduceCtorEq, Nat.reduceAdd, Nat.reduceLeDiff, Int.reduceBEq, Int.reduceLT, Int.reduceLE, Int.reduceEq, ne_eq, not_false_eq_true, Nat.reduceMul, refE_val, refE_sz, *]))
  refine AWp.loopH [6, 7, 8, 9, 12, 13, 14, 15, 16, 17, 18, 1, 19, 20, 21, 22, 23, 24, 25, 10, 11, 5] (fun m e' H' => ∃ j : Nat, j ≤ n ∧ m = n - j ∧ e' 5 = .int .i64 j ∧ e' 1 = .int .i64 (k + (j * 2 : Nat)) ∧ H' = H.set r ⟨el, sz, marksC k (j * 2) ++ cs.drop (j * 2), ver, o⟩) n ⟨0, by omega, by omega, rfl, by simp [put, env0], by simp [marksC]; exact (set_same hb).symm⟩ ?_
  rintro m e' H' hA ⟨j, hj, rfl, h5, h1, rfl⟩ hJ
  have a0 := hA 0 rfl; have a4 := hA 4 rfl; try simp only [bse, wk, tys, storeH_ptr, Nat.reduceEqDiff, ↓reduceIte, reduceCtorEq, Nat.reduceAdd, Nat.reduceLeDiff, Int.reduceBEq, Int.reduceLT, Int.reduceLE, Int.reduceEq, ne_eq, not_false_eq_true, Nat.reduceMul] at a0 a4; clear hA
  by_cases hlt : j < n
  · have hlt' : (j : Int) < (n : Int) := by omega
    have hown : o = true := ho (by omega)
    subst hown
    have hg0 : (H.set r ⟨el, sz, marksC k (j * 2) ++ cs.drop (j * 2), ver, true⟩)[r]? = _ := List.getElem?_set_self hr
    have hs0 := mark_step (P := Tryz.prog) (B := B) (T := 2) (p := j * 2) (k := k) (cs := cs) hg0 hB lay2 (by omega)
    rw [List.set_set] at hs0
    have hw0 : IntKind.i64.wrap (k + ((j * 2 : Nat) : Int) + 1) = k + ((j * 2 + 1 : Nat) : Int) := by rw [wr] <;> omega
    have hg1 : (H.set r ⟨el, sz, marksC k (j * 2 + 1) ++ cs.drop (j * 2 + 1), ver, true⟩)[r]? = _ := List.getElem?_set_self hr
    have hs1 := mark_step (P := Tryz.prog) (B := B) (T := 2) (p := j * 2 + 1) (k := k) (cs := cs) hg1 hB lay2 (by omega)
    rw [List.set_set] at hs1
    have hw1 : IntKind.i64.wrap (k + ((j * 2 + 1 : Nat) : Int) + 1) = k + ((j * 2 + 1 + 1 : Nat) : Int) := by rw [wr] <;> omega
    have hw := wr_succ (k := j) (by omega)
    repeat' (first | (refine KT.run _ ?_) | (refine AWp.seqH fun KC => ?_) | (refine AWp.block ?_) | (refine AWp.region ?_) | (refine AWp.skip ?_) | (refine AWp.condB ?_) | (simp only [bse, wk, tys, Nat.reduceEqDiff, ↓reduceIte, reduceCtorEq, Nat.reduceAdd, Nat.reduceLeDiff, Int.reduceBEq, Int.reduceLT, Int.reduceLE, Int.reduceEq, ne_eq, not_false_eq_true, Nat.reduceMul, refE_val, refE_sz, *]))
    exact hJ.out _ _ ⟨n - (j + 1), by omega, j + 1, by omega, rfl, rfl, by simp only [put, if_true, if_false, reduceCtorEq, Nat.reduceEqDiff]; rw [show (j + 1) * 2 = j * 2 + 1 + 1 by omega], by rw [show (j + 1) * 2 = j * 2 + 2 by omega]⟩ (by repeat (first | exact Agree.refl _ _ | assumption | refine Agree.put ?_ rfl _))
  · have hlt' : ¬ (j : Int) < (n : Int) := by omega
    have : j = n := by omega
    subst this
    have hg : (H.set r ⟨el, sz, marksC k (j * 2) ++ cs.drop (j * 2), ver, o⟩)[r]? = some ⟨el, sz, marksC k (j * 2) ++ cs.drop (j * 2), ver, o⟩ := List.getElem?_set_self hr
    have hd : cs.drop (j * 2) = [] := List.drop_eq_nil_of_le (by omega)
    rw [hd, List.append_nil] at hg
    repeat' (first | (refine KT.run _ ?_) | (refine AWp.seqH fun KC => ?_) | (refine AWp.region ?_) | (refine AWp.ret ?_) | (refine AWp.exit ?_) | (refine AWp.condB ?_) | (simp only [bse, wk, tys, storeH_ptr, Nat.reduceEqDiff, ↓reduceIte, reduceCtorEq, Nat.reduceAdd, Nat.reduceLeDiff, Int.reduceBEq, Int.reduceLT, Int.reduceLE, Int.reduceEq, ne_eq, not_false_eq_true, Nat.reduceMul, refE_val, refE_sz, *]))
theorem laws_heldRefS (n : Nat) (k : Int) (hk : 0 ≤ k) (hk2 : k ≤ 1000000000000000) (hn : n ≤ 1048576) :
    PCalls Tryz.prog 61 [isl n (marksC k (n * 2)), .int .i64 k] (.int .i64 (k + (n * 2 : Nat))) := by
  have hlen := lenV_isl (P := Tryz.prog) (H := []) (n := n) (cs := marksC k (n * 2)) elZ42
  refine PCalls.flat rfl ?_; refine ACalls.enter (n := 31) (rs := [.tmp 4]) Tryz.func61 rfl rfl rfl (by kernel_rfl) (by kernel_rfl) (by kernel_rfl) (Nat.le_of_ble_eq_true rfl) ?_
  repeat' (first | (refine KT.run _ ?_) | (refine AWp.seqH fun KC => ?_) | (refine AWp.block ?_) | (refine AWp.region ?_) | (simp only [bse, wk, tys, storeH_ptr, Nat.reduceEqDiff, ↓reduceIte, reduceCtorEq, Nat.reduceAdd, Nat.reduceLeDiff, Int.reduceBEq, Int.reduceLT, Int.reduceLE, Int.reduceEq, ne_eq, not_false_eq_true, Nat.reduceMul, refE_val, refE_sz, *]))
  refine AWp.loopH [6, 7, 8, 9, 12, 13, 14, 15, 16, 17, 18, 4, 19, 20, 1, 21, 22, 23, 24, 25, 26, 27, 28, 29, 10, 11, 5] (fun m e' H' => ∃ j : Nat, j ≤ n ∧ m = n - j ∧ e' 5 = .int .i64 j ∧ e' 1 = .int .i64 (k + (j * 2 : Nat)) ∧ H' = []) n ⟨0, by omega, by omega, rfl, by simp [put, env0], rfl⟩ ?_
  rintro m e' H' hA ⟨j, hj, rfl, h5, h1, rfl⟩ hJ
  have a0 := hA 0 rfl; try simp only [bse, wk, tys, storeH_ptr, Nat.reduceEqDiff, ↓reduceIte, reduceCtorEq, Nat.reduceAdd, Nat.reduceLeDiff, Int.reduceBEq, Int.reduceLT, Int.reduceLE, Int.reduceEq, ne_eq, not_false_eq_true, Nat.reduceMul] at a0; clear hA
  by_cases hlt : j < n
  · have hlt' : (j : Int) < (n : Int) := by omega
    have hi := idxV_isl (P := Tryz.prog) (H := []) (n := n) (kd := .i64) (cs := marksC k (n * 2)) elZ42 hlt
    have hv0 : (marksC k (n * 2))[j * 2]? = some (.int .i64 (k + (j * 2 : Nat))) := marksC_get k (by omega)
    have hl0 := load_ip1 (P := Tryz.prog) (H := []) (T := 2) (p := j * 2) lay2 hv0
    have hw0 : IntKind.i64.wrap (k + ((j * 2 : Nat) : Int) + 1) = k + ((j * 2 + 1 : Nat) : Int) := by rw [wr] <;> omega
    have hf0_0 := fld_ip (P := Tryz.prog) (H := []) (p := j * 2) (cs := marksC k (n * 2)) fld128_0
    have hv1 : (marksC k (n * 2))[j * 2 + 1]? = some (.int .i64 (k + (j * 2 + 1 : Nat))) := marksC_get k (by omega)
    have hl1 := load_ip1 (P := Tryz.prog) (H := []) (T := 2) (p := j * 2 + 1) lay2 hv1
    have hw1 : IntKind.i64.wrap (k + ((j * 2 + 1 : Nat) : Int) + 1) = k + ((j * 2 + 1 + 1 : Nat) : Int) := by rw [wr] <;> omega
    have hf1_0 := fld_ip (P := Tryz.prog) (H := []) (p := j * 2) (cs := marksC k (n * 2)) fld128_1
    have hw := wr_succ (k := j) (by omega)
    repeat' (first | (refine KT.run _ ?_) | (refine AWp.seqH fun KC => ?_) | (refine AWp.block ?_) | (refine AWp.region ?_) | (refine AWp.skip ?_) | (refine AWp.condB ?_) | (simp only [bse, wk, tys, storeH_ptr, Nat.reduceEqDiff, ↓reduceIte, reduceCtorEq, Nat.reduceAdd, Nat.reduceLeDiff, Int.reduceBEq, Int.reduceLT, Int.reduceLE, Int.reduceEq, ne_eq, not_false_eq_true, Nat.reduceMul, refE_val, refE_sz, *]))
    exact hJ.out _ _ ⟨n - (j + 1), by omega, j + 1, by omega, rfl, rfl, by simp only [put, if_true, if_false, reduceCtorEq, Nat.reduceEqDiff]; rw [show (j + 1) * 2 = j * 2 + 1 + 1 by omega], rfl⟩ (by repeat (first | exact Agree.refl _ _ | assumption | refine Agree.put ?_ rfl _))
  · have hlt' : ¬ (j : Int) < (n : Int) := by omega
    have : j = n := by omega
    subst this
    repeat' (first | (refine KT.run _ ?_) | (refine AWp.seqH fun KC => ?_) | (refine AWp.region ?_) | (refine AWp.ret ?_) | (refine AWp.exit ?_) | (refine AWp.condB ?_) | (simp only [bse, wk, tys, storeH_ptr, Nat.reduceEqDiff, ↓reduceIte, reduceCtorEq, Nat.reduceAdd, Nat.reduceLeDiff, Int.reduceBEq, Int.reduceLT, Int.reduceLE, Int.reduceEq, ne_eq, not_false_eq_true, Nat.reduceMul, refE_val, refE_sz, *]))

end Go.BM
/- Who owns what: slices and structs of the laws. -/
set_option linter.unusedVariables false
set_option linter.unusedSimpArgs false
set_option maxRecDepth 100000
set_option maxHeartbeats 4000000
namespace Go.BM
open Go.Proofs Go.RowKit
attribute [local irreducible] ACalls AWp aops qops optK optP cK gateA condK mops qcallK PCalls loadV fldV idxV lenV slV storeH binS
theorem refE_flat (ys : List TRef) : ∀ c ∈ refE.flat ys, flatV c = true := flatE_of (fun y c hc => by simp [refE, cellsV] at hc; (repeat' (first | (rcases hc with rfl | hc; · exact rfl) | (subst hc; exact rfl)))) ys
theorem laws_markRefS0 (k : Int) : PCalls Tryz.prog 59 [islE refE [], .int .i64 k] (.int .i64 k) := by
  refine PCalls.flat rfl ?_; refine ACalls.enter (n := 27) (rs := [.tmp 4]) Tryz.func59 rfl rfl rfl (by kernel_rfl) (by kernel_rfl) (by kernel_rfl) (Nat.le_of_ble_eq_true rfl) ?_
  repeat' (first | (refine KT.run _ ?_) | (refine AWp.seqH fun KC => ?_) | (refine AWp.block ?_) | (refine AWp.region ?_) | (simp only [bse, wk, tys, storeH_ptr, Nat.reduceEqDiff, ↓reduceIte, reduceCtorEq, Nat.reduceAdd, Nat.reduceLeDiff, Int.reduceBEq, Int.reduceLT, Int.reduceLE, Int.reduceEq, ne_eq, not_false_eq_true, Nat.reduceMul, *]))
  refine AWp.loopH [6, 7, 8, 9, 12, 13, 14, 15, 16, 17, 18, 1, 19, 20, 21, 22, 23, 24, 25, 10, 11, 5] (fun m e' H' => e' 5 = .int .i64 0 ∧ e' 1 = .int .i64 k ∧ H' = []) 0 ⟨rfl, rfl, rfl⟩ ?_
  rintro m e' H' hA ⟨h5, h1, rfl⟩ hJ
  have a0 := hA 0 rfl; have a4 := hA 4 rfl; try simp only [bse, wk, tys, storeH_ptr, Nat.reduceEqDiff, ↓reduceIte, reduceCtorEq, Nat.reduceAdd, Nat.reduceLeDiff, Int.reduceBEq, Int.reduceLT, Int.reduceLE, Int.reduceEq, ne_eq, not_false_eq_true, Nat.reduceMul] at a0 a4; clear hA
  have h00 : ¬ (0 : Int) < ((0 : Nat) : Int) := by decide
  repeat' (first | (refine KT.run _ ?_) | (refine AWp.seqH fun KC => ?_) | (refine AWp.region ?_) | (refine AWp.ret ?_) | (refine AWp.exit ?_) | (refine AWp.condB ?_) | (simp only [bse, wk, tys, storeH_ptr, Nat.reduceEqDiff, ↓reduceIte, reduceCtorEq, Nat.reduceAdd, Nat.reduceLeDiff, Int.reduceBEq, Int.reduceLT, Int.reduceLE, Int.reduceEq, ne_eq, not_false_eq_true, Nat.reduceMul, *]))
theorem mk_RefS (xs : List TRef) (hn : xs.length ≤ 1048576) : MCalls Tryz.prog 59 61 (islE refE xs) (xs.length * 2) := by
  have := MCalls.ofSl (P := Tryz.prog) (f := 59) (g := 61) (E := refE) (xs := xs) (mk := fun k n => marksC k n) (fun _ _ => marksC_len _ _) (fun k n => marksC_flat k n) (refE_flat xs) laws_markRefS0
    (fun H r ver el sz cs sp k hb hl hk hk2 => by
      simp only [refE_sz, Nat.mul_one] at hl ⊢
      exact laws_markRefS 0 H r xs.length ver el sz cs true sp k hb hl (fun _ => rfl) (Nat.zero_le _) hk hk2 hn)
    (fun k hk hk2 => by
      simp only [refE_sz, Nat.mul_one]
      exact laws_heldRefS xs.length k hk hk2 hn)
  simpa only [refE_sz, Nat.mul_one] using this

def nOut (x : TOut) : Nat := nRule x.rule
theorem laws_eqOut (x : TOut) (hn : nOut x ≤ 1048576) : PCalls Tryz.prog 89 [outE.val x, outE.val x] (.bool true) := by
  unfold nOut at hn
  refine PCalls.flat rfl ?_; refine ACalls.enter (n := 16) (rs := [.tmp 4]) Tryz.func89 rfl rfl rfl (by kernel_rfl) (by kernel_rfl) (by kernel_rfl) (Nat.le_of_ble_eq_true rfl) ?_
  repeat' (first | (refine ACalls.start ?_; first | (refine ACalls.ofJi (laws_eqRule x.rule (by omega)) rfl ?_)) | (refine KV.run _ ?_) | (refine KT.run _ ?_) | (refine AWp.seqH fun KC => ?_) | (refine AWp.region ?_) | (refine AWp.ret ?_) | (refine AWp.skip ?_) | (refine aops_callH rfl fun kC => ?_) | (refine AWp.condB ?_) | (simp only [bse, wk, tys, storeH_ptr, Nat.reduceEqDiff, ↓reduceIte, reduceCtorEq, Nat.reduceAdd, Nat.reduceLeDiff, Int.reduceBEq, Int.reduceLT, Int.reduceLE, Int.reduceEq, ne_eq, not_false_eq_true, Nat.reduceMul, ruleE_val, ruleE_sz, outE_val, outE_sz, *]))
end Go.BM
/- Marks: slices whose things hold slices: Out. -/
set_option linter.unusedVariables false
set_option linter.unusedSimpArgs false
set_option maxRecDepth 100000
set_option maxHeartbeats 4000000
namespace Go.BM
open Go.Proofs Go.RowKit
attribute [local irreducible] ACalls AWp aops qops optK optP cK gateA condK mops qcallK PCalls loadV fldV idxV lenV slV storeH binS
def kOut (x : TOut) : Nat := x.rule.keys.length
def mOutS : List TOut → Nat
  | [] => 0
  | x :: xs => 3 + kOut x + mOutS xs
/-- The cells of marked things, as they are told: what each slice holds reads as its marks. -/
def MkOutS : Int → List TOut → List Value → Prop
  | _, [], cs => cs = []
  | k, x :: xs, cs => ∃ n us rest, cs = .int .i64 (k) :: isl n us :: .int .i64 (k + 1 + (kOut x : Nat)) :: .int .i64 (k + 1 + (kOut x : Nat) + 1) :: rest ∧ PCalls Tryz.prog 54 [isl n us, .int .i64 (k + 1)] (.int .i64 (k + 1 + (kOut x : Nat))) ∧ Im (isl n us) ∧ MkOutS (k + (3 + kOut x : Nat)) xs rest
theorem MkOutS.snoc : ∀ (xs : List TOut) (k : Int) (cs : List Value) (x : TOut) (n : Nat) (us : List Value), MkOutS k xs cs → PCalls Tryz.prog 54 [isl n us, .int .i64 (k + (mOutS xs : Nat) + 1)] (.int .i64 (k + (mOutS xs : Nat) + 1 + (kOut x : Nat))) → Im (isl n us) → MkOutS k (xs ++ [x]) (cs ++ [.int .i64 ((k + (mOutS xs : Nat))), isl n us, .int .i64 ((k + (mOutS xs : Nat)) + 1 + (kOut x : Nat)), .int .i64 ((k + (mOutS xs : Nat)) + 1 + (kOut x : Nat) + 1)])
  | [], k, cs, x, n, us, h, h1, h2 => by
    have hc : cs = [] := h
    subst hc
    have e : k + ((mOutS [] : Nat) : Int) = k := by simp [mOutS]
    rw [e] at h1 ⊢
    exact ⟨n, us, [], rfl, h1, h2, rfl⟩
  | y :: xs, k, cs, x, n, us, h, h1, h2 => by
    obtain ⟨n', us', rest, rfl, g1, g2, g3⟩ := h
    have e : k + ((mOutS (y :: xs) : Nat) : Int) = k + ((3 + kOut y : Nat) : Int) + ((mOutS xs : Nat) : Int) := by simp only [mOutS]; omega
    rw [e] at h1 ⊢
    exact ⟨n', us', rest ++ _, rfl, g1, g2, MkOutS.snoc xs _ rest x n us g3 h1 h2⟩
theorem mOutS_take (xs : List TOut) (j : Nat) (hj : j < xs.length) : mOutS (xs.take (j + 1)) = mOutS (xs.take j) + (3 + kOut xs[j]) := by
  have h : ∀ (l : List TOut) (x : TOut), mOutS (l ++ [x]) = mOutS l + (3 + kOut x) := fun l x => by
    induction l with
    | nil => simp [mOutS]
    | cons a l ih => simp only [List.cons_append, mOutS, ih]; omega
  rw [← take_next xs j hj, h]
theorem mOutS_le (xs : List TOut) : mOutS xs ≤ 3 * sumN kOut xs := by
  induction xs with
  | nil => simp [mOutS]
  | cons a l ih => unfold sumN at ih ⊢; simp only [mOutS, List.length_cons, List.map_cons, List.sum_cons]; omega
theorem mOutS_takeLe (xs : List TOut) (j : Nat) : mOutS (xs.take j) ≤ mOutS xs := by
  induction xs generalizing j with
  | nil => simp [mOutS]
  | cons a l ih =>
    cases j with
    | zero => simp [mOutS]
    | succ j => simp only [List.take_succ_cons, mOutS]; have := ih j; omega
theorem laws_heldOutS (xs : List TOut) (cs : List Value) (k : Int) (h : MkOutS k xs cs) (hk : 0 ≤ k) (hk2 : k + (mOutS xs : Nat) ≤ 1000000000000000) (hn : xs.length ≤ 1048576) (him : Im (isl xs.length cs)) :
    PCalls Tryz.prog 62 [isl xs.length cs, .int .i64 k] (.int .i64 (k + (mOutS xs : Nat))) := by
  have hlen := lenV_isl (P := Tryz.prog) (H := []) (n := xs.length) (cs := cs) elZ43
  haveI im1 : ImC (isl xs.length cs) := ⟨him⟩
  refine PCalls.flat rfl ?_; refine ACalls.enter (n := 52) (rs := [.tmp 4]) Tryz.func62 rfl rfl rfl (by kernel_rfl) (by kernel_rfl) (by kernel_rfl) (Nat.le_of_ble_eq_true rfl) ?_
  repeat' (first | (refine KT.run _ ?_) | (refine AWp.seqH fun KC => ?_) | (refine AWp.block ?_) | (refine AWp.region ?_) | (simp only [bse, wk, tys, storeH_ptr, Nat.reduceEqDiff, ↓reduceIte, reduceCtorEq, Nat.reduceAdd, Nat.reduceLeDiff, Int.reduceBEq, Int.reduceLT, Int.reduceLE, Int.reduceEq, ne_eq, not_false_eq_true, Nat.reduceMul, outE_val, outE_sz, ruleE_val, ruleE_sz, refE_val, refE_sz, *]))
  refine AWp.loopH [6, 7, 8, 9, 12, 13, 14, 15, 16, 17, 18, 4, 19, 20, 1, 21, 22, 23, 24, 25, 26, 27, 28, 29, 30, 31, 32, 33, 34, 35, 36, 37, 38, 39, 40, 41, 42, 43, 44, 45, 46, 47, 48, 49, 50, 10, 11, 5] (fun m e' H' => ∃ (j : Nat) (c : Int), j ≤ xs.length ∧ m = xs.length - j ∧ e' 5 = .int .i64 j ∧ e' 1 = .int .i64 c ∧ H' = [] ∧ 0 ≤ c ∧ Hid (MkOutS c (xs.drop j) (cs.drop (j * 4))) ∧ Hid (c + ((mOutS (xs.drop j) : Nat) : Int) = k + ((mOutS xs : Nat) : Int))) xs.length ⟨0, k, by omega, by omega, rfl, by simp [put, env0], rfl, hk, by unfold Hid; simpa using h, by unfold Hid; simp⟩ ?_
  rintro m e' H' hA ⟨j, c, hj, rfl, h5, h1, rfl, hc0, hF, hS⟩ hJ
  have a0 := hA 0 rfl; try simp only [bse, wk, tys, storeH_ptr, Nat.reduceEqDiff, ↓reduceIte, reduceCtorEq, Nat.reduceAdd, Nat.reduceLeDiff, Int.reduceBEq, Int.reduceLT, Int.reduceLE, Int.reduceEq, ne_eq, not_false_eq_true, Nat.reduceMul] at a0; clear hA
  by_cases hlt : j < xs.length
  · have hlt' : (j : Int) < (xs.length : Int) := by omega
    have hd := List.drop_eq_getElem_cons hlt
    have hF2 := hF.out
    have hS2 := hS.out
    rw [hd] at hF2 hS2
    obtain ⟨n, us, rest, hcs, hh, hi2, hF3⟩ := hF2
    have hcb : c + ((3 + kOut xs[j] : Nat) : Int) ≤ 1000000000000000 := by simp only [mOutS] at hS2; omega
    have hrest : rest = cs.drop ((j + 1) * 4) := by rw [show (j + 1) * 4 = j * 4 + 4 by omega, ← List.drop_drop, hcs]; rfl
    have hF4 : Hid (MkOutS (c + ((3 + kOut xs[j] : Nat) : Int)) (xs.drop (j + 1)) (cs.drop ((j + 1) * 4))) := by rw [← hrest]; exact hF3
    have hS4 : Hid (c + ((3 + kOut xs[j] : Nat) : Int) + ((mOutS (xs.drop (j + 1)) : Nat) : Int) = k + ((mOutS xs : Nat) : Int)) := by unfold Hid; rw [← hS2]; simp only [mOutS]; omega
    have hi : idxV Tryz.prog [] 43 (isl xs.length cs) (.int .i64 (j : Int)) = some (ip (.int .i64 (c) :: isl n us :: .int .i64 (c + 1 + (kOut xs[j] : Nat)) :: .int .i64 (c + 1 + (kOut xs[j] : Nat) + 1) :: rest)) := by
      rw [← hcs]
      exact idxV_isl (P := Tryz.prog) (H := []) (n := xs.length) (kd := .i64) (cs := cs) elZ43 hlt
    haveI im0 : ImC (isl n us) := ⟨hi2⟩
    have hw := wr_succ (k := j) (by omega)
    clear hF hS hF3 hcs hrest hd hS2
    generalize kOut xs[j] = q at hh hcb hF4 hS4 hi
    have hw0 : IntKind.i64.wrap (c + 1) = c + 1 := by rw [wr] <;> omega
    have hw2 : IntKind.i64.wrap (c + 1 + (q : Nat) + 1) = c + 1 + (q : Nat) + 1 := by rw [wr] <;> omega
    have hw3 : IntKind.i64.wrap (c + 1 + (q : Nat) + 1 + 1) = c + ((3 + q : Nat) : Int) := by rw [wr] <;> omega
    have hq0 : ¬ c + 1 + (q : Int) < 0 := by omega
    repeat' (first | (refine ACalls.start ?_; first | (refine ACalls.ofJi (hh) rfl ?_)) | (refine KV.run _ ?_) | (refine KT.run _ ?_) | (refine AWp.seqH fun KC => ?_) | (refine AWp.block ?_) | (refine AWp.region ?_) | (refine AWp.skip ?_) | (refine aops_callH rfl fun kC => ?_) | (refine AWp.condB ?_) | (simp only [bse, wk, tys, storeH_ptr, Nat.reduceEqDiff, ↓reduceIte, reduceCtorEq, Nat.reduceAdd, Nat.reduceLeDiff, Int.reduceBEq, Int.reduceLT, Int.reduceLE, Int.reduceEq, ne_eq, not_false_eq_true, Nat.reduceMul, outE_val, outE_sz, ruleE_val, ruleE_sz, refE_val, refE_sz, *]))
    exact hJ.out _ _ ⟨xs.length - (j + 1), by omega, j + 1, c + ((3 + q : Nat) : Int), by omega, rfl, rfl, by simp only [put, if_true, if_false, reduceCtorEq, Nat.reduceEqDiff], rfl, by omega, hF4, hS4⟩ (by repeat (first | exact Agree.refl _ _ | assumption | refine Agree.put ?_ rfl _))
  · have hlt' : ¬ (j : Int) < (xs.length : Int) := by omega
    have he : c = k + ((mOutS xs : Nat) : Int) := by have := hS.out; rw [List.drop_eq_nil_of_le (by omega)] at this; simpa [mOutS] using this
    clear hF hS
    subst he
    repeat' (first | (refine KT.run _ ?_) | (refine AWp.seqH fun KC => ?_) | (refine AWp.region ?_) | (refine AWp.ret ?_) | (refine AWp.exit ?_) | (refine AWp.condB ?_) | (simp only [bse, wk, tys, storeH_ptr, Nat.reduceEqDiff, ↓reduceIte, reduceCtorEq, Nat.reduceAdd, Nat.reduceLeDiff, Int.reduceBEq, Int.reduceLT, Int.reduceLE, Int.reduceEq, ne_eq, not_false_eq_true, Nat.reduceMul, outE_val, outE_sz, ruleE_val, ruleE_sz, refE_val, refE_sz, *]))
theorem laws_markOutS0 (k : Int) : PCalls Tryz.prog 60 [islE outE [], .int .i64 k] (.int .i64 k) := by
  refine PCalls.flat rfl ?_; refine ACalls.enter (n := 44) (rs := [.tmp 4]) Tryz.func60 rfl rfl rfl (by kernel_rfl) (by kernel_rfl) (by kernel_rfl) (Nat.le_of_ble_eq_true rfl) ?_
  repeat' (first | (refine KT.run _ ?_) | (refine AWp.seqH fun KC => ?_) | (refine AWp.block ?_) | (refine AWp.region ?_) | (simp only [bse, wk, tys, storeH_ptr, Nat.reduceEqDiff, ↓reduceIte, reduceCtorEq, Nat.reduceAdd, Nat.reduceLeDiff, Int.reduceBEq, Int.reduceLT, Int.reduceLE, Int.reduceEq, ne_eq, not_false_eq_true, Nat.reduceMul, outE_val, outE_sz, ruleE_val, ruleE_sz, refE_val, refE_sz, *]))
  refine AWp.loopH [6, 7, 8, 9, 12, 13, 14, 15, 16, 17, 18, 1, 19, 20, 21, 22, 23, 24, 25, 26, 27, 28, 29, 30, 31, 32, 33, 34, 35, 36, 37, 38, 39, 40, 41, 42, 10, 11, 5] (fun m e' H' => e' 5 = .int .i64 0 ∧ e' 1 = .int .i64 k ∧ H' = []) 0 ⟨rfl, rfl, rfl⟩ ?_
  rintro m e' H' hA ⟨h5, h1, rfl⟩ hJ
  have a0 := hA 0 rfl; have a4 := hA 4 rfl; try simp only [bse, wk, tys, storeH_ptr, Nat.reduceEqDiff, ↓reduceIte, reduceCtorEq, Nat.reduceAdd, Nat.reduceLeDiff, Int.reduceBEq, Int.reduceLT, Int.reduceLE, Int.reduceEq, ne_eq, not_false_eq_true, Nat.reduceMul] at a0 a4; clear hA
  have h00 : ¬ (0 : Int) < ((0 : Nat) : Int) := by decide
  repeat' (first | (refine KT.run _ ?_) | (refine AWp.seqH fun KC => ?_) | (refine AWp.region ?_) | (refine AWp.ret ?_) | (refine AWp.exit ?_) | (refine AWp.condB ?_) | (simp only [bse, wk, tys, storeH_ptr, Nat.reduceEqDiff, ↓reduceIte, reduceCtorEq, Nat.reduceAdd, Nat.reduceLeDiff, Int.reduceBEq, Int.reduceLT, Int.reduceLE, Int.reduceEq, ne_eq, not_false_eq_true, Nat.reduceMul, outE_val, outE_sz, ruleE_val, ruleE_sz, refE_val, refE_sz, *]))
theorem mk_OutS (xs : List TOut) (hn : sumN kOut xs ≤ 1048576) : MCalls Tryz.prog 60 62 (islE outE xs) (mOutS xs) := by
  have hn1 := sumN_len kOut xs
  have hml := mOutS_le xs
  intro H d S k ho hnd hk hk2
  rcases ho.slI with ⟨rfl, rfl, rfl⟩ | ⟨r, sp, blk, rfl, hr, rfl, rfl, hx⟩ | ⟨r, sp, blk, S1, rfl, hr, hown, hl, hx, rfl, hc⟩
  · have hh := laws_heldOutS [] [] k rfl hk (by simpa using hk2) (by simp) (Im.isl Im.nilL)
    refine ACalls.ofP (laws_markOutS0 k) ho.bork rfl ⟨by simp [mOutS], Nat.le_refl _, fun _ _ _ => rfl, islE outE [], .nils .nil, hh⟩
  · have hh := laws_heldOutS [] [] k rfl hk (by simpa using hk2) (by simp) (Im.isl Im.nilL)
    refine ACalls.ofP (laws_markOutS0 k) ho.bork rfl ⟨by simp [mOutS], Nat.le_refl _, fun _ _ _ => rfl, islE outE [], ho, hh⟩
  obtain ⟨el, sz, cs, ver, o⟩ := blk
  have hxl := hx rfl
  dsimp only at hown hl hxl hr hc
  subst hown
  rw [← hxl, List.take_length] at hc
  have hHr := lt_of_some hr
  obtain ⟨hrS, hnS⟩ := List.nodup_cons.1 hnd
  have hlt1 := hc.lt
  refine ACalls.enter (n := 44) (rs := [.tmp 4]) Tryz.func60 rfl rfl rfl (by kernel_rfl) (by kernel_rfl) (by kernel_rfl) (Nat.le_of_ble_eq_true rfl) ?_
  repeat' (first | (refine KT.run _ ?_) | (refine AWp.seqH fun KC => ?_) | (refine AWp.block ?_) | (refine AWp.region ?_) | (simp only [bse, wk, tys, storeH_ptr, Nat.reduceEqDiff, ↓reduceIte, reduceCtorEq, Nat.reduceAdd, Nat.reduceLeDiff, Int.reduceBEq, Int.reduceLT, Int.reduceLE, Int.reduceEq, ne_eq, not_false_eq_true, Nat.reduceMul, outE_val, outE_sz, ruleE_val, ruleE_sz, refE_val, refE_sz, *]))
  refine AWp.loopH [6, 7, 8, 9, 12, 13, 14, 15, 16, 17, 18, 1, 19, 20, 21, 22, 23, 24, 25, 26, 27, 28, 29, 30, 31, 32, 33, 34, 35, 36, 37, 38, 39, 40, 41, 42, 10, 11, 5] (fun m e' G => ∃ (j : Nat) (c : Int) (us ds vals : List Value) (Sa Sb : List Nat), j ≤ xs.length ∧ m = xs.length - j ∧ e' 5 = .int .i64 j ∧ e' 1 = .int .i64 c ∧ c = k + ((mOutS (xs.take j) : Nat) : Int) ∧ us.length = j * 4 ∧ G[r]? = some ⟨el, sz, us ++ ds, ver, true⟩ ∧ Hid (OwnL true G us vals Sa) ∧ Hid (OwnL true G ds (outE.flat (xs.drop j)) Sb) ∧ Hid (MkOutS k (xs.take j) vals) ∧ Hid (S1 = Sa ++ Sb) ∧ Hid (H.length ≤ G.length) ∧ Hid (∀ q, q < H.length → q ≠ r → q ∉ S1 → G[q]? = H[q]?)) xs.length
    ⟨0, k, [], cs, [], [], S1, by omega, by omega, rfl, by simp [put, env0], by simp [mOutS], by simp, hr, .nil, by unfold Hid; simpa using hc, rfl, rfl, Nat.le_refl _, fun _ _ _ _ => rfl⟩ ?_
  rintro m e' G hA ⟨j, c, us, ds, vals, Sa, Sb, hj, rfl, h5, h1, hce, hul, hg, hoa, hob, hmk, hSe, hle, hfr⟩ hJ
  have a0 := hA 0 rfl; have a4 := hA 4 rfl; try simp only [bse, wk, tys, storeH_ptr, Nat.reduceEqDiff, ↓reduceIte, reduceCtorEq, Nat.reduceAdd, Nat.reduceLeDiff, Int.reduceBEq, Int.reduceLT, Int.reduceLE, Int.reduceEq, ne_eq, not_false_eq_true, Nat.reduceMul] at a0 a4; clear hA
  by_cases hlt : j < xs.length
  · have hlt' : (j : Int) < (xs.length : Int) := by omega
    have hw := wr_succ (k := j) (by omega)
    have hob2 := hob.out
    rw [List.drop_eq_getElem_cons hlt] at hob2
    have hmt := mOutS_take xs j hlt
    have hmle := mOutS_takeLe xs (j + 1)
    have hsn := take_next xs j hlt
    have hkq := sumN_at kOut (List.getElem_mem hlt)
    generalize hx0 : xs[j] = x at hob2 hmt hkq hsn
    have hob3 : OwnL true G ds (.int .i64 x.value :: islE intE x.rule.keys :: .int .i64 x.rule.need :: .int .i64 x.rule.after :: outE.flat (xs.drop (j + 1))) Sb := hob2
    clear hob2 hob
    obtain ⟨m_0, rfl, o_0⟩ := OwnL.flatI hob3 rfl
    obtain ⟨d_s, m_1, S2, Sc, rfl, rfl, p_s, o_1⟩ := OwnL.consI o_0
    obtain ⟨a_s, n_s, v_s, rfl⟩ := p_s.slD
    obtain ⟨m_2, rfl, o_2⟩ := OwnL.flatI o_1 rfl
    obtain ⟨m_3, rfl, o_3⟩ := OwnL.flatI o_2 rfl
    have hSe2 := hSe.out
    have hSu := hSe2
    have hdis := hnS
    rw [hSe2] at hdis
    have hrn : ∀ q ∈ Sa ++ (S2 ++ Sc), q ≠ r := fun q hq e => hrS (by rw [hSe2, ← e]; exact hq)
    have hGr := lt_of_some hg
    have hc1 : 0 ≤ c := by omega
    have hc2 : c + ((3 + kOut x : Nat) : Int) ≤ 1000000000000000 := by omega
    have hke : kOut x = x.rule.keys.length := rfl
    have hceH : Hid _ := hce
    clear hce
    skip
    obtain ⟨C0, hC0⟩ : ∃ C0, C0 = us ++ [.int .i64 x.value, .slice a_s n_s v_s, .int .i64 x.rule.need, .int .i64 x.rule.after] ++ m_3 := ⟨_, rfl⟩
    have hg0 : G[r]? = some ⟨el, sz, C0, ver, true⟩ := by rw [hg, hC0]; simp
    obtain ⟨C1, hC1⟩ : ∃ C1, C1 = us ++ [.int .i64 (c), .slice a_s n_s v_s, .int .i64 x.rule.need, .int .i64 x.rule.after] ++ m_3 := ⟨_, rfl⟩
    have hs0 : storeH Tryz.prog 0 G 2 (.pointer (some ⟨r, j * 4, some ver⟩)) (.int .i64 (c)) = some (G.set r ⟨el, sz, C1, ver, true⟩) := by
      have := storeH_at (P := Tryz.prog) (B := 0) (H := G) (T := 2) (r := r) (ver := ver) (el := el) (sz := sz) (off := j * 4) (pre := us ++ []) (mid := [.int .i64 x.value]) (post := ([.slice a_s n_s v_s, .int .i64 x.rule.need, .int .i64 x.rule.after] ++ m_3)) (v := .int .i64 (c)) (by rw [hg0, hC0]; simp) (Nat.zero_le _) lay2 (by simp; omega) rfl rfl rfl
      rw [hC1]
      simpa [cellsV, List.set_set] using this
    have hgs0 : (G.set r ⟨el, sz, C1, ver, true⟩)[r]? = some ⟨el, sz, C1, ver, true⟩ := List.getElem?_set_self hGr
    have hw0 : IntKind.i64.wrap (c + 1) = c + 1 := by rw [wr] <;> omega
    have hw2 : IntKind.i64.wrap (c + 1 + (x.rule.keys.length : Nat) + 1) = c + 1 + (x.rule.keys.length : Nat) + 1 := by rw [wr] <;> omega
    have hw3 : IntKind.i64.wrap (c + 1 + (x.rule.keys.length : Nat) + 1 + 1) = c + ((3 + x.rule.keys.length : Nat) : Int) := by rw [wr] <;> omega
    have hls : loadV Tryz.prog (G.set r ⟨el, sz, C1, ver, true⟩) 27 (.pointer (some ⟨r, j * 4 + 1, some ver⟩)) = some (.slice a_s n_s v_s) := by
      rw [loadV_ptr, show lay Tryz.prog 27 = some (false, 1) from lay27]
      simp only [Option.bind_some, getB_eq, hgs0, and_self, if_true, getVar_f]
      rw [hC1, List.append_assoc, List.getElem?_append_right (by omega), hul, show j * 4 + 1 - j * 4 = 1 by omega]
      rfl
    have hps : OwnL true (G.set r ⟨el, sz, C1, ver, true⟩) [.slice a_s n_s v_s] [islE intE x.rule.keys] S2 := p_s.frame fun q hq => List.getElem?_set_ne (Ne.symm (hrn q (by simp [hq])))
    have hmki := mk_Int64S x.rule.keys (by have : kOut x = x.rule.keys.length := rfl; omega) (G.set r ⟨el, sz, C1, ver, true⟩) _ _ (c + 1) hps (by rw [List.nodup_append] at hdis; exact (List.nodup_append.1 hdis.2.1).1) (by omega) (by have : kOut x = x.rule.keys.length := rfl; omega)
    have hHU : Hid (OwnL true G us vals Sa) := hoa
    have hoD : Hid (OwnL true G m_3 (outE.flat (xs.drop (j + 1))) Sc) := o_3
    have hps0 : Hid (OwnL true G [.slice a_s n_s v_s] [islE intE x.rule.keys] S2) := p_s
    have hulH : Hid (us.length = j * 4) := hul
    clear o_0 o_1 o_2 o_3 hoa p_s hul
    have hE0 : Hid _ := hC0
    have hE1 : Hid _ := hC1
    clear hC0 hC1 hg
    repeat' (first | (refine KT.run _ ?_) | (refine AWp.seqH fun KC => ?_) | (refine AWp.block ?_) | (refine AWp.region ?_) | (refine AWp.skip ?_) | (refine aops_callH rfl fun kC => ?_) | (refine AWp.condB ?_) | (simp only [bse, wk, tys, Nat.reduceEqDiff, ↓reduceIte, reduceCtorEq, Nat.reduceAdd, Nat.reduceLeDiff, Int.reduceBEq, Int.reduceLT, Int.reduceLE, Int.reduceEq, ne_eq, not_false_eq_true, Nat.reduceMul, outE_val, outE_sz, ruleE_val, ruleE_sz, refE_val, refE_sz, *]))
    refine ACalls.get hmki (by first | exact Nat.le_refl _ | exact Nat.zero_le _ | (simp only [List.length_append, List.length_cons, List.length_nil]; omega) | (simp only [List.length_set]; omega) | omega) (by first | exact Nat.le_refl _ | exact Nat.zero_le _ | (simp only [List.length_append, List.length_cons, List.length_nil]; omega) | (simp only [List.length_set]; omega) | omega) ?_
    rintro _ K ⟨rfl, hM⟩
    have hkr : r ∉ S2 := fun hq => hrn r (by simp [hq]) rfl
    have hk0 : K[r]? = some ⟨el, sz, C1, ver, true⟩ := (hM.old r (by rw [List.length_set]; exact hGr) hkr).trans (List.getElem?_set_self hGr)
    have hKr := lt_of_some hk0
    obtain ⟨y, hy1, hy2⟩ := hM.own
    obtain ⟨n_y, c_y, m_y, Sy1, Sy2, ey, eS, hy3, hy4⟩ := OwnL.slY hy1
    obtain ⟨e1, e2⟩ := OwnL.nilJ hy4
    subst e1 e2
    injection ey with ey _
    subst ey
    rw [List.append_nil] at eS
    have hul := hulH.out
    have hC1 := hE1.out
    obtain ⟨C3, hC3⟩ : ∃ C3, C3 = us ++ [.int .i64 (c), .slice a_s n_s v_s, .int .i64 (c + 1 + (x.rule.keys.length : Nat)), .int .i64 x.rule.after] ++ m_3 := ⟨_, rfl⟩
    have hs2 : storeH Tryz.prog 0 K 2 (.pointer (some ⟨r, j * 4 + 1 + 1, some ver⟩)) (.int .i64 (c + 1 + (x.rule.keys.length : Nat))) = some (K.set r ⟨el, sz, C3, ver, true⟩) := by
      have := storeH_at (P := Tryz.prog) (B := 0) (H := K) (T := 2) (r := r) (ver := ver) (el := el) (sz := sz) (off := j * 4 + 1 + 1) (pre := us ++ [.int .i64 (c), .slice a_s n_s v_s]) (mid := [.int .i64 x.rule.need]) (post := ([.int .i64 x.rule.after] ++ m_3)) (v := .int .i64 (c + 1 + (x.rule.keys.length : Nat))) (by rw [hk0, hC1]; simp) (Nat.zero_le _) lay2 (by simp; omega) rfl rfl rfl
      rw [hC3]
      simpa [cellsV, List.set_set] using this
    have hgs2 : (K.set r ⟨el, sz, C3, ver, true⟩)[r]? = some ⟨el, sz, C3, ver, true⟩ := List.getElem?_set_self hKr
    obtain ⟨C4, hC4⟩ : ∃ C4, C4 = us ++ [.int .i64 (c), .slice a_s n_s v_s, .int .i64 (c + 1 + (x.rule.keys.length : Nat)), .int .i64 (c + 1 + (x.rule.keys.length : Nat) + 1)] ++ m_3 := ⟨_, rfl⟩
    have hs3 : storeH Tryz.prog 0 (K.set r ⟨el, sz, C3, ver, true⟩) 2 (.pointer (some ⟨r, j * 4 + 1 + 2, some ver⟩)) (.int .i64 (c + 1 + (x.rule.keys.length : Nat) + 1)) = some (K.set r ⟨el, sz, C4, ver, true⟩) := by
      have := storeH_at (P := Tryz.prog) (B := 0) (H := (K.set r ⟨el, sz, C3, ver, true⟩)) (T := 2) (r := r) (ver := ver) (el := el) (sz := sz) (off := j * 4 + 1 + 2) (pre := us ++ [.int .i64 (c), .slice a_s n_s v_s, .int .i64 (c + 1 + (x.rule.keys.length : Nat))]) (mid := [.int .i64 x.rule.after]) (post := ([] ++ m_3)) (v := .int .i64 (c + 1 + (x.rule.keys.length : Nat) + 1)) (by rw [List.getElem?_set_self hKr, hC3]; simp) (Nat.zero_le _) lay2 (by simp; omega) rfl rfl rfl
      rw [hC4]
      simpa [cellsV, List.set_set] using this
    have hgs3 : (K.set r ⟨el, sz, C4, ver, true⟩)[r]? = some ⟨el, sz, C4, ver, true⟩ := List.getElem?_set_self hKr
    have hE3 : Hid _ := hC3
    have hE4 : Hid _ := hC4
    clear hC1 hC3 hC4 hmki hps hls
    clear hul
    repeat' (first | (refine KV.run _ ?_) | (refine KT.run _ ?_) | (refine AWp.seqH fun KC => ?_) | (refine AWp.region ?_) | (simp only [bse, wk, tys, Nat.reduceEqDiff, ↓reduceIte, reduceCtorEq, Nat.reduceAdd, Nat.reduceLeDiff, Int.reduceBEq, Int.reduceLT, Int.reduceLE, Int.reduceEq, ne_eq, not_false_eq_true, Nat.reduceMul, outE_val, outE_sz, ruleE_val, ruleE_sz, refE_val, refE_sz, *]))
    refine hJ.out _ _ ⟨xs.length - (j + 1), by omega, j + 1, c + ((3 + x.rule.keys.length : Nat) : Int), us ++ [.int .i64 (c), .slice a_s n_s v_s, .int .i64 (c + 1 + (x.rule.keys.length : Nat)), .int .i64 (c + 1 + (x.rule.keys.length : Nat) + 1)], m_3, vals ++ [.int .i64 (c), isl n_y c_y, .int .i64 (c + 1 + (x.rule.keys.length : Nat)), .int .i64 (c + 1 + (x.rule.keys.length : Nat) + 1)], Sa ++ S2, Sc, by omega, rfl, rfl, by simp only [put, if_true, if_false, reduceCtorEq, Nat.reduceEqDiff], by have := hceH.out; rw [hmt]; omega, by have := hulH.out; simp; omega, ?_, ?_, ?_, ?_, ?_, ?_, ?_⟩ (by repeat (first | exact Agree.refl _ _ | assumption | refine Agree.put ?_ rfl _))
    · rw [List.getElem?_set_self hKr, hE4.out]
    · have hfa : ∀ q ∈ Sa, (K.set r ⟨el, sz, C4, ver, true⟩)[q]? = G[q]? := fun q hq => by
        have hqr := hrn q (by simp [hq])
        rw [List.getElem?_set_ne (Ne.symm hqr), hM.old q (by rw [List.length_set]; exact hHU.out.lt q hq) (fun h => (List.nodup_append.1 hdis).2.2 q hq q (by simp [h]) rfl), List.getElem?_set_ne (Ne.symm hqr)]
      have hfy : ∀ q ∈ S2, (K.set r ⟨el, sz, C4, ver, true⟩)[q]? = K[q]? := fun q hq => List.getElem?_set_ne (Ne.symm (hrn q (by simp [hq])))
      have hy3s : OwnL true K [.slice a_s n_s v_s] [isl n_y c_y] S2 := by rw [eS]; exact hy3
      have htl : OwnL true (K.set r ⟨el, sz, C4, ver, true⟩) [.int .i64 (c), .slice a_s n_s v_s, .int .i64 (c + 1 + (x.rule.keys.length : Nat)), .int .i64 (c + 1 + (x.rule.keys.length : Nat) + 1)] [.int .i64 (c), isl n_y c_y, .int .i64 (c + 1 + (x.rule.keys.length : Nat)), .int .i64 (c + 1 + (x.rule.keys.length : Nat) + 1)] (S2 ++ []) := (.flat rfl (OwnL.consL (hy3s.frame hfy) (.flat rfl (.flat rfl .nil))))
      have hzz := (hHU.out.frame hfa).append htl
      rw [List.append_nil] at hzz
      exact hzz
    · refine hoD.out.frame fun q hq => ?_
      have hqr := hrn q (by simp [hq])
      rw [List.getElem?_set_ne (Ne.symm hqr), hM.old q (by rw [List.length_set]; exact hoD.out.lt q hq) (fun h => (List.nodup_append.1 (List.nodup_append.1 hdis).2.1).2.2 q h q hq rfl), List.getElem?_set_ne (Ne.symm hqr)]
    · have hsc := MkOutS.snoc (xs.take j) k vals x n_y c_y hmk.out (by rw [← hceH.out]; exact hy2) hy3.im1
      rw [hsn, ← hceH.out] at hsc
      exact hsc
    · unfold Hid; rw [hSe2]; simp
    · unfold Hid; rw [List.length_set]; have := hM.len; rw [List.length_set] at this; have := hle.out; omega
    · intro q h1 h2 h3
      have hq2 : q ∉ S2 := fun h => h3 (by rw [hSe2]; simp [h])
      have := hle.out
      rw [List.getElem?_set_ne (Ne.symm h2), hM.old q (by rw [List.length_set]; omega) hq2, List.getElem?_set_ne (Ne.symm h2)]
      exact hfr.out q h1 h2 h3
  · have hlt' : ¬ (j : Int) < (xs.length : Int) := by omega
    have hjl : j = xs.length := by omega
    have hds : ds = [] ∧ Sb = [] := by have := hob.out; rw [List.drop_eq_nil_of_le (by omega)] at this; exact OwnL.nilI this
    have hcf : c = k + ((mOutS xs : Nat) : Int) := by rw [hce, hjl, List.take_length]
    obtain ⟨rfl, rfl⟩ := hds
    have hmk2 := hmk.out
    rw [hjl, List.take_length] at hmk2
    rw [List.append_nil] at hg
    have hsl := OwnL.slice (x := true) (H := G) (r := r) (sp := sp) (len := xs.length) (blk := ⟨el, sz, us, ver, true⟩) (cs := vals) (S := Sa) (T := []) (l := []) (l' := []) hg rfl (by have := hoa.out.len; dsimp only; omega) (fun _ => hoa.out.len) (fun h0 => by
      have : us = [] := List.eq_nil_of_length_eq_zero (by rw [hul, hjl, h0, Nat.zero_mul])
      subst this
      have := hoa.out.len
      exact List.eq_nil_of_length_eq_zero this.symm) (by dsimp only; rw [← hoa.out.len, List.take_length]; exact hoa.out) .nil
    have hSe3 := hSe.out
    rw [List.append_nil] at hsl hSe3
    rw [hSe3] at hfr
    have hheld := laws_heldOutS xs vals k hmk2 hk hk2 (by omega) hsl.im1
    have hfin : Mkd Tryz.prog 62 H G (.slice (some ⟨r, 0, sp⟩) xs.length ver) (r :: Sa) k (mOutS xs) := ⟨hle.out, fun q h1 h2 => hfr.out q h1 (fun e => h2 (by simp [e])) (fun h => h2 (by simp [h])), isl xs.length vals, hsl, hheld⟩
    clear hsl hheld hmk2 hoa hob hmk hSe hle hfr hce hul hjl
    subst hcf
    repeat' (first | (refine KT.run _ ?_) | (refine AWp.seqH fun KC => ?_) | (refine AWp.region ?_) | (refine AWp.ret ?_) | (refine AWp.exit ?_) | (refine AWp.condB ?_) | (simp only [bse, wk, tys, Nat.reduceEqDiff, ↓reduceIte, reduceCtorEq, Nat.reduceAdd, Nat.reduceLeDiff, Int.reduceBEq, Int.reduceLT, Int.reduceLE, Int.reduceEq, ne_eq, not_false_eq_true, Nat.reduceMul, outE_val, outE_sz, ruleE_val, ruleE_sz, refE_val, refE_sz, *]))
    all_goals first | exact ⟨rfl, hfin⟩ | exact hfin
end Go.BM
/- Outs: what the laws do with slices of them. -/
set_option linter.unusedVariables false
set_option linter.unusedSimpArgs false
set_option maxRecDepth 100000
set_option maxHeartbeats 4000000
namespace Go.BM
open Go.Proofs Go.RowKit
attribute [local irreducible] ACalls AWp aops qops optK optP cK gateA condK mops qcallK PCalls loadV fldV idxV lenV slV storeH binS
theorem laws_eqOutS (xs : List TOut) (hn : sumN kOut xs ≤ 1048576) : PCalls Tryz.prog 58 [islE outE xs, islE outE xs] (.bool true) := by
  have hn1 := sumN_len kOut xs
  refine PCalls.flat rfl ?_; refine ACalls.enter (n := 27) (rs := [.tmp 4]) Tryz.func58 rfl rfl rfl (by kernel_rfl) (by kernel_rfl) (by kernel_rfl) (Nat.le_of_ble_eq_true rfl) ?_
  repeat' (first | (refine KT.run _ ?_) | (refine AWp.seqH fun KC => ?_) | (refine AWp.block ?_) | (refine AWp.region ?_) | (refine AWp.skip ?_) | (refine AWp.condB ?_) | (simp only [bse, wk, tys, storeH_ptr, Nat.reduceEqDiff, ↓reduceIte, reduceCtorEq, Nat.reduceAdd, Nat.reduceLeDiff, Int.reduceBEq, Int.reduceLT, Int.reduceLE, Int.reduceEq, ne_eq, not_false_eq_true, Nat.reduceMul, outE_val, outE_sz, ruleE_val, ruleE_sz, *]))
  refine AWp.loopH [11, 12, 13, 14, 17, 18, 19, 20, 21, 22, 23, 24, 25, 26, 4, 15, 16, 5] (fun m e' H' => ∃ k : Nat, k ≤ xs.length ∧ m = xs.length - k ∧ e' 5 = .int .i64 k ∧ H' = []) xs.length ⟨0, by omega, by omega, rfl, rfl⟩ ?_
  rintro m e' H' hA ⟨k, hk, rfl, h5, rfl⟩ hJ
  have a0 := hA 0 rfl; have a1 := hA 1 rfl; try simp only [bse, wk, tys, storeH_ptr, Nat.reduceEqDiff, ↓reduceIte, reduceCtorEq, Nat.reduceAdd, Nat.reduceLeDiff, Int.reduceBEq, Int.reduceLT, Int.reduceLE, Int.reduceEq, ne_eq, not_false_eq_true, Nat.reduceMul] at a0 a1; clear hA
  by_cases hlt : k < xs.length
  · have hlt' : (k : Int) < (xs.length : Int) := by omega
    have hw := wr_succ (k := k) (by omega)
    have hq := laws_eqOut xs[k] (by have := sumN_at kOut (List.getElem_mem hlt); have e : nOut xs[k] = kOut xs[k] := rfl; omega)
    repeat' (first | (refine AWp.quiet (id := 6) (by kernel_rfl) (by kernel_rfl) ?_) | (refine qcall_start ?_; first | (refine qcallFi (hq) rfl ?_ ?_; (focus ((first | exact rfl | (simp [pureV, flatV, outE_val, outE_sz, ruleE_val, ruleE_sz]; done)))))) | (refine KQ.run _ ?_) | (refine KT.run _ ?_) | (refine AWp.seqH fun KC => ?_) | (refine AWp.block ?_) | (refine AWp.region ?_) | (refine AWp.skip ?_) | (refine qops_callH rfl fun kC => ?_) | (refine AWp.condB ?_) | (simp only [bse, wk, tys, storeH_ptr, Nat.reduceEqDiff, ↓reduceIte, reduceCtorEq, Nat.reduceAdd, Nat.reduceLeDiff, Int.reduceBEq, Int.reduceLT, Int.reduceLE, Int.reduceEq, ne_eq, not_false_eq_true, Nat.reduceMul, outE_val, outE_sz, ruleE_val, ruleE_sz, *]))
    exact hJ.out _ _ ⟨xs.length - (k + 1), by omega, k + 1, by omega, rfl, rfl, rfl⟩ (by repeat (first | exact Agree.refl _ _ | assumption | refine Agree.put ?_ rfl _))
  · have hlt' : ¬ (k : Int) < (xs.length : Int) := by omega
    repeat' (first | (refine KT.run _ ?_) | (refine AWp.seqH fun KC => ?_) | (refine AWp.region ?_) | (refine AWp.ret ?_) | (refine AWp.exit ?_) | (refine AWp.condB ?_) | (simp only [bse, wk, tys, storeH_ptr, Nat.reduceEqDiff, ↓reduceIte, reduceCtorEq, Nat.reduceAdd, Nat.reduceLeDiff, Int.reduceBEq, Int.reduceLT, Int.reduceLE, Int.reduceEq, ne_eq, not_false_eq_true, Nat.reduceMul, outE_val, outE_sz, ruleE_val, ruleE_sz, *]))
end Go.BM
/- Who owns what: slices and structs of the laws. -/
set_option linter.unusedVariables false
set_option linter.unusedSimpArgs false
set_option maxRecDepth 100000
set_option maxHeartbeats 4000000
namespace Go.BM
open Go.Proofs Go.RowKit
attribute [local irreducible] ACalls AWp aops qops optK optP cK gateA condK mops qcallK PCalls loadV fldV idxV lenV slV storeH binS
def nTx (x : TTx) : Nat := x.ins.length + sumN kOut x.outs
def mTx (x : TTx) : Nat := x.ins.length * 2 + mOutS x.outs
theorem laws_eqTx (x : TTx) (hn : nTx x ≤ 1048576) : PCalls Tryz.prog 36 [txE.val x, txE.val x] (.bool true) := by
  unfold nTx at hn
  refine PCalls.flat rfl ?_; refine ACalls.enter (n := 27) (rs := [.tmp 4]) Tryz.func36 rfl rfl rfl (by kernel_rfl) (by kernel_rfl) (by kernel_rfl) (Nat.le_of_ble_eq_true rfl) ?_
  repeat' (first | (refine ACalls.start ?_; first | (refine ACalls.ofJi (laws_eqRefS x.ins (by omega)) rfl ?_) | (refine ACalls.ofJi (laws_eqOutS x.outs (by omega)) rfl ?_)) | (refine KV.run _ ?_) | (refine KT.run _ ?_) | (refine AWp.seqH fun KC => ?_) | (refine AWp.region ?_) | (refine AWp.ret ?_) | (refine AWp.skip ?_) | (refine aops_callH rfl fun kC => ?_) | (refine AWp.condB ?_) | (simp only [bse, wk, tys, storeH_ptr, Nat.reduceEqDiff, ↓reduceIte, reduceCtorEq, Nat.reduceAdd, Nat.reduceLeDiff, Int.reduceBEq, Int.reduceLT, Int.reduceLE, Int.reduceEq, ne_eq, not_false_eq_true, Nat.reduceMul, txE_val, txE_sz, *]))
theorem mk_Tx (x : TTx) (hn : nTx x ≤ 1048576) : MCalls Tryz.prog 37 38 (txE.val x) (mTx x) := by
  unfold nTx at hn
  unfold mTx
  intro H d S k ho hnd hk hk2
  rw [txE_val] at ho
  obtain ⟨xs, rfl, o⟩ := OwnL.aggI ho
  clear ho
  obtain ⟨m_0, rfl, o_n1⟩ := OwnL.flatI o rfl
  obtain ⟨m_1, rfl, o_n2⟩ := OwnL.flatI o_n1 rfl
  obtain ⟨d_2, m_2, S_2, R_2, rfl, rfl, p_2, o_n3⟩ := OwnL.consI o_n2
  obtain ⟨a_2, n_2, v_2, rfl⟩ := OwnL.slD p_2
  obtain ⟨d_3, m_3, S_3, R_3, rfl, rfl, p_3, o_n4⟩ := OwnL.consI o_n3
  obtain ⟨a_3, n_3, v_3, rfl⟩ := OwnL.slD p_3
  obtain ⟨rfl, rfl⟩ := OwnL.nilI o_n4
  have hc : Cx H [(.slice a_2 n_2 v_2, islE refE x.ins, S_2), (.slice a_3 n_3 v_3, islE outE x.outs, S_3)] [] := ⟨by intro o ho; simp only [List.mem_cons, List.not_mem_nil, or_false] at ho; rcases ho with rfl | rfl <;> first | exact p_2 | exact p_3, by simpa using hnd, by simp⟩
  refine ACalls.enter (n := 14) (rs := [.tmp 4]) Tryz.func37 rfl rfl rfl (by kernel_rfl) (by kernel_rfl) (by kernel_rfl) (Nat.le_of_ble_eq_true rfl) ?_
  repeat' (first | (refine KT.run _ ?_) | (refine AWp.seqH fun KC => ?_) | (refine AWp.region ?_) | (refine aops_callH rfl fun kC => ?_) | (simp only [bse, wk, tys, storeH_ptr, Nat.reduceEqDiff, ↓reduceIte, reduceCtorEq, Nat.reduceAdd, Nat.reduceLeDiff, Int.reduceBEq, Int.reduceLT, Int.reduceLE, Int.reduceEq, ne_eq, not_false_eq_true, Nat.reduceMul, txE_val, txE_sz, *]))
  refine ACalls.get (mk_RefS x.ins (by omega) _ _ _ (k) ((hc.push _).get 0 rfl) (hc.getNd 0 rfl) (by omega) (by omega)) (by first | exact Nat.le_refl _ | exact Nat.zero_le _ | (simp only [List.length_append, List.length_cons, List.length_nil]; omega) | (simp only [List.length_set]; omega) | omega) (by first | exact Nat.le_refl _ | exact Nat.zero_le _ | (simp only [List.length_append, List.length_cons, List.length_nil]; omega) | (simp only [List.length_set]; omega) | omega) ?_
  rintro _ H0 ⟨rfl, hM0⟩
  obtain ⟨y0, hy0, hc0⟩ := (hc.push _).mark 0 rfl hM0
  have hb0 := hc0.bx 0 rfl
  repeat' (first | (refine KV.run _ ?_) | (refine KT.run _ ?_) | (refine AWp.seqH fun KC => ?_) | (refine AWp.region ?_) | (refine aops_callH rfl fun kC => ?_) | (simp only [bse, wk, tys, storeH_ptr, Nat.reduceEqDiff, ↓reduceIte, reduceCtorEq, Nat.reduceAdd, Nat.reduceLeDiff, Int.reduceBEq, Int.reduceLT, Int.reduceLE, Int.reduceEq, ne_eq, not_false_eq_true, Nat.reduceMul, txE_val, txE_sz, *]))
  refine ACalls.get (mk_OutS x.outs (by omega) _ _ _ (k + ((x.ins.length * 2 : Nat) : Int)) (hc0.get 1 rfl) (hc.getNd 1 rfl) (by omega) (by omega)) (by first | exact Nat.le_refl _ | exact Nat.zero_le _ | (simp only [List.length_append, List.length_cons, List.length_nil]; omega) | (simp only [List.length_set]; omega) | omega) (by first | exact Nat.le_refl _ | exact Nat.zero_le _ | (simp only [List.length_append, List.length_cons, List.length_nil]; omega) | (simp only [List.length_set]; omega) | omega) ?_
  rintro _ H1 ⟨rfl, hM1⟩
  obtain ⟨y1, hy1, hc1⟩ := hc0.mark 1 rfl hM1
  have hb1 := hc1.bx 0 rfl
  repeat' (first | (refine KV.run _ ?_) | (refine KT.run _ ?_) | (refine AWp.seqH fun KC => ?_) | (refine AWp.region ?_) | (refine AWp.ret ?_) | (simp only [bse, wk, tys, storeH_ptr, Nat.reduceEqDiff, ↓reduceIte, reduceCtorEq, Nat.reduceAdd, Nat.reduceLeDiff, Int.reduceBEq, Int.reduceLT, Int.reduceLE, Int.reduceEq, ne_eq, not_false_eq_true, Nat.reduceMul, txE_val, txE_sz, *]))
  obtain ⟨k0, cs0, _, _, _, e0, _, _, _⟩ := OwnL.slY (hc1.get 0 rfl)
  cases e0
  haveI im0 : ImC (isl k0 cs0) := ⟨(hc1.get 0 rfl).im1⟩
  obtain ⟨k1, cs1, _, _, _, e1, _, _, _⟩ := OwnL.slY (hc1.get 1 rfl)
  cases e1
  haveI im1 : ImC (isl k1 cs1) := ⟨(hc1.get 1 rfl).im1⟩
  have hh : PCalls Tryz.prog 38 [.agg #[.int .i64 x.kind, .int .i64 x.member, isl k0 cs0, isl k1 cs1], .int .i64 k] (.int .i64 (k + ((x.ins.length * 2 : Nat) : Int) + ((mOutS x.outs : Nat) : Int))) := by
    have q0 : ¬ k + ((x.ins.length * 2 : Nat) : Int) < 0 := by omega
    have q1 : ¬ k + ((x.ins.length * 2 : Nat) : Int) + ((mOutS x.outs : Nat) : Int) < 0 := by omega
    refine PCalls.flat rfl ?_; refine ACalls.enter (n := 18) (rs := [.tmp 4]) Tryz.func38 rfl rfl rfl (by kernel_rfl) (by kernel_rfl) (by kernel_rfl) (Nat.le_of_ble_eq_true rfl) ?_
    repeat' (first | (refine ACalls.start ?_; first | (refine ACalls.ofJi (hy0) rfl ?_) | (refine ACalls.ofJi (hy1) rfl ?_)) | (refine KV.run _ ?_) | (refine KT.run _ ?_) | (refine AWp.seqH fun KC => ?_) | (refine AWp.region ?_) | (refine AWp.ret ?_) | (refine AWp.skip ?_) | (refine aops_callH rfl fun kC => ?_) | (refine AWp.condB ?_) | (simp only [bse, wk, tys, storeH_ptr, Nat.reduceEqDiff, ↓reduceIte, reduceCtorEq, Nat.reduceAdd, Nat.reduceLeDiff, Int.reduceBEq, Int.reduceLT, Int.reduceLE, Int.reduceEq, ne_eq, not_false_eq_true, Nat.reduceMul, txE_val, txE_sz, *]))
  have ek : k + ((x.ins.length * 2 : Nat) : Int) + ((mOutS x.outs : Nat) : Int) = k + ((x.ins.length * 2 + mOutS x.outs : Nat) : Int) := by omega
  rw [ek] at hh
  try rw [ek]
  try (refine And.intro ?_ ?_; focus (first | rfl | omega | (congr 1; omega)))
  refine ⟨by have := hM0.len; have := hM1.len; simp only [List.length_append, List.length_cons, List.length_nil] at *; omega, fun r hr hs => (hM1.old r (by have := hM0.len; have := hM1.len; simp only [List.length_append, List.length_cons, List.length_nil] at *; omega) (fun h => hs (by first | exact h | (simp at h ⊢; grind)))).trans ((hM0.old r (by have := hM0.len; have := hM1.len; simp only [List.length_append, List.length_cons, List.length_nil] at *; omega) (fun h => hs (by first | exact h | (simp at h ⊢; grind)))).trans (List.getElem?_append_left hr)), _, ?_, hh⟩
  have hS : OwnL true H1 [.agg #[.int .i64 x.kind, .int .i64 x.member, .slice a_2 n_2 v_2, .slice a_3 n_3 v_3]] [.agg #[.int .i64 x.kind, .int .i64 x.member, isl k0 cs0, isl k1 cs1]] _ := OwnL.aggL (.flat rfl (.flat rfl (OwnL.append (hc1.get 0 rfl) (OwnL.append (hc1.get 1 rfl) (.nil)))))
  first | exact hS | simpa using hS
def nTxResult (x : TTxResult) : Nat := nTx x.tx
def mTxResult (x : TTxResult) : Nat := mTx x.tx
theorem laws_eqTxResult (x : TTxResult) (hn : nTxResult x ≤ 1048576) : PCalls Tryz.prog 16 [txResultE.val x, txResultE.val x] (.bool true) := by
  unfold nTxResult at hn
  refine PCalls.flat rfl ?_; refine ACalls.enter (n := 16) (rs := [.tmp 4]) Tryz.func16 rfl rfl rfl (by kernel_rfl) (by kernel_rfl) (by kernel_rfl) (Nat.le_of_ble_eq_true rfl) ?_
  repeat' (first | (refine ACalls.start ?_; first | (refine ACalls.ofJi (laws_eqTx x.tx (by omega)) rfl ?_)) | (refine KV.run _ ?_) | (refine KT.run _ ?_) | (refine AWp.seqH fun KC => ?_) | (refine AWp.region ?_) | (refine AWp.ret ?_) | (refine AWp.skip ?_) | (refine aops_callH rfl fun kC => ?_) | (refine AWp.condB ?_) | (simp only [bse, wk, tys, storeH_ptr, Nat.reduceEqDiff, ↓reduceIte, reduceCtorEq, Nat.reduceAdd, Nat.reduceLeDiff, Int.reduceBEq, Int.reduceLT, Int.reduceLE, Int.reduceEq, ne_eq, not_false_eq_true, Nat.reduceMul, txE_val, txE_sz, txResultE_val, txResultE_sz, *]))
theorem mk_TxResult (x : TTxResult) (hn : nTxResult x ≤ 1048576) : MCalls Tryz.prog 17 18 (txResultE.val x) (mTxResult x) := by
  unfold nTxResult at hn
  unfold mTxResult
  intro H d S k ho hnd hk hk2
  rw [txResultE_val] at ho
  obtain ⟨xs, rfl, o⟩ := OwnL.aggI ho
  clear ho
  obtain ⟨m_0, rfl, o_n1⟩ := OwnL.flatI o rfl
  obtain ⟨m_1, rfl, o_n2⟩ := OwnL.flatI o_n1 rfl
  obtain ⟨m_2, rfl, o_n3⟩ := OwnL.flatI o_n2 rfl
  obtain ⟨d_3, m_3, S_3, R_3, rfl, rfl, p_3, o_n4⟩ := OwnL.consI o_n3
  obtain ⟨a_3, n_3, v_3, rfl⟩ := OwnL.slD p_3
  obtain ⟨d_4, m_4, S_4, R_4, rfl, rfl, p_4, o_n5⟩ := OwnL.consI o_n4
  obtain ⟨a_4, n_4, v_4, rfl⟩ := OwnL.slD p_4
  obtain ⟨rfl, rfl⟩ := OwnL.nilI o_n5
  have hc : Cx H [(.agg #[.int .i64 x.tx.kind, .int .i64 x.tx.member, .slice a_3 n_3 v_3, .slice a_4 n_4 v_4], txE.val x.tx, S_3 ++ (S_4 ++ ([])))] [] := ⟨by intro o ho; simp only [List.mem_cons, List.not_mem_nil, or_false] at ho; rcases ho with rfl <;> first | exact (OwnL.aggL (.flat rfl (.flat rfl (OwnL.append p_3 (OwnL.append p_4 (.nil)))))), by simpa using hnd, by simp⟩
  refine ACalls.enter (n := 10) (rs := [.tmp 4]) Tryz.func17 rfl rfl rfl (by kernel_rfl) (by kernel_rfl) (by kernel_rfl) (Nat.le_of_ble_eq_true rfl) ?_
  repeat' (first | (refine KT.run _ ?_) | (refine AWp.seqH fun KC => ?_) | (refine AWp.region ?_) | (refine aops_callH rfl fun kC => ?_) | (simp only [bse, wk, tys, storeH_ptr, Nat.reduceEqDiff, ↓reduceIte, reduceCtorEq, Nat.reduceAdd, Nat.reduceLeDiff, Int.reduceBEq, Int.reduceLT, Int.reduceLE, Int.reduceEq, ne_eq, not_false_eq_true, Nat.reduceMul, txE_val, txE_sz, txResultE_val, txResultE_sz, *]))
  refine ACalls.get (mk_Tx x.tx (by omega) _ _ _ (k) ((hc.push _).get 0 rfl) (hc.getNd 0 rfl) (by omega) (by omega)) (by first | exact Nat.le_refl _ | exact Nat.zero_le _ | (simp only [List.length_append, List.length_cons, List.length_nil]; omega) | (simp only [List.length_set]; omega) | omega) (by first | exact Nat.le_refl _ | exact Nat.zero_le _ | (simp only [List.length_append, List.length_cons, List.length_nil]; omega) | (simp only [List.length_set]; omega) | omega) ?_
  rintro _ H0 ⟨rfl, hM0⟩
  obtain ⟨y0, hy0, hc0⟩ := (hc.push _).mark 0 rfl hM0
  have hb0 := hc0.bx 0 rfl
  repeat' (first | (refine KV.run _ ?_) | (refine KT.run _ ?_) | (refine AWp.seqH fun KC => ?_) | (refine AWp.region ?_) | (refine AWp.ret ?_) | (simp only [bse, wk, tys, storeH_ptr, Nat.reduceEqDiff, ↓reduceIte, reduceCtorEq, Nat.reduceAdd, Nat.reduceLeDiff, Int.reduceBEq, Int.reduceLT, Int.reduceLE, Int.reduceEq, ne_eq, not_false_eq_true, Nat.reduceMul, txE_val, txE_sz, txResultE_val, txResultE_sz, *]))
  obtain ⟨ys0, rfl, p0⟩ := OwnL.aggJ (hc0.get 0 rfl)
  obtain ⟨m_0_0, rfl, p0_n1⟩ := OwnL.flatJ p0 rfl (fun _ => by simp)
  obtain ⟨m_0_1, rfl, p0_n2⟩ := OwnL.flatJ p0_n1 rfl (fun _ => by simp)
  obtain ⟨k_0_2, c_0_2, m_0_2, _, _, rfl, _, w_0_2, p0_n3⟩ := OwnL.slY p0_n2
  haveI im_0_2 : ImC (isl k_0_2 c_0_2) := ⟨w_0_2.im1⟩
  obtain ⟨k_0_3, c_0_3, m_0_3, _, _, rfl, _, w_0_3, p0_n4⟩ := OwnL.slY p0_n3
  haveI im_0_3 : ImC (isl k_0_3 c_0_3) := ⟨w_0_3.im1⟩
  obtain ⟨rfl, _⟩ := OwnL.nilJ p0_n4
  have hh : PCalls Tryz.prog 18 [.agg #[.int .i64 x.code, .int .i64 x.tx.kind, .int .i64 x.tx.member, isl k_0_2 c_0_2, isl k_0_3 c_0_3], .int .i64 k] (.int .i64 (k + ((mTx x.tx : Nat) : Int))) := by
    have q0 : ¬ k + ((mTx x.tx : Nat) : Int) < 0 := by omega
    refine PCalls.flat rfl ?_; refine ACalls.enter (n := 12) (rs := [.tmp 4]) Tryz.func18 rfl rfl rfl (by kernel_rfl) (by kernel_rfl) (by kernel_rfl) (Nat.le_of_ble_eq_true rfl) ?_
    repeat' (first | (refine ACalls.start ?_; first | (refine ACalls.ofJi (hy0) rfl ?_)) | (refine KV.run _ ?_) | (refine KT.run _ ?_) | (refine AWp.seqH fun KC => ?_) | (refine AWp.region ?_) | (refine AWp.ret ?_) | (refine AWp.skip ?_) | (refine aops_callH rfl fun kC => ?_) | (refine AWp.condB ?_) | (simp only [bse, wk, tys, storeH_ptr, Nat.reduceEqDiff, ↓reduceIte, reduceCtorEq, Nat.reduceAdd, Nat.reduceLeDiff, Int.reduceBEq, Int.reduceLT, Int.reduceLE, Int.reduceEq, ne_eq, not_false_eq_true, Nat.reduceMul, txE_val, txE_sz, txResultE_val, txResultE_sz, *]))
  have ek : k + ((mTx x.tx : Nat) : Int) = k + ((mTx x.tx : Nat) : Int) := by omega
  rw [ek] at hh
  try rw [ek]
  try (refine And.intro ?_ ?_; focus (first | rfl | omega | (congr 1; omega)))
  refine ⟨by have := hM0.len; simp only [List.length_append, List.length_cons, List.length_nil] at *; omega, fun r hr hs => (hM0.old r (by have := hM0.len; simp only [List.length_append, List.length_cons, List.length_nil] at *; omega) (fun h => hs (by first | exact h | (simp at h ⊢; grind)))).trans (List.getElem?_append_left hr), _, ?_, hh⟩
  have hS : OwnL true H0 [.agg #[.int .i64 x.code, .int .i64 x.tx.kind, .int .i64 x.tx.member, .slice a_3 n_3 v_3, .slice a_4 n_4 v_4]] [.agg #[.int .i64 x.code, .int .i64 x.tx.kind, .int .i64 x.tx.member, isl k_0_2 c_0_2, isl k_0_3 c_0_3]] _ := OwnL.aggL (.flat rfl (OwnL.append (OwnL.unagg (hc0.get 0 rfl)) (.nil)))
  first | exact hS | simpa using hS
end Go.BM
/- FnExactTxIn over data. -/
set_option linter.unusedVariables false
set_option linter.unusedSimpArgs false
set_option maxRecDepth 100000
set_option maxHeartbeats 4000000
namespace Go.BM
open Go.Proofs Go.RowKit
attribute [local irreducible] ACalls AWp aops qops optK optP cK gateA condK mops qcallK PCalls loadV fldV idxV lenV slV storeH binS
theorem sum_le3 : ∀ l : List TOut, (∀ x ∈ l, kOut x ≤ 3) → (l.map kOut).sum ≤ 3 * l.length
  | [], _ => by simp
  | x :: l, h => by
    have ih := sum_le3 l fun y hy => h y (by simp [hy])
    have h1 := h x (by simp)
    rw [List.map_cons, List.sum_cons, List.length_cons]
    omega
theorem nTx_small {x : TTx} (h : txFault x = 0) : nTx x ≤ 1000 := by
  obtain ⟨_, _, _, hi, ho, _, hO⟩ := tx_bounds h
  have := sum_le3 x.outs fun y hy => (rf_bounds (hO y hy).2).1.2
  unfold nTx sumN
  omega
theorem nR_TxIn (l : TLedger) (id : Int) (h : nLedger l ≤ 1048576) : nTxResult (txInF l id) ≤ 1048576 := by
  have h0 : nTx tx0 = 0 := rfl
  unfold nTxResult txInF txInP
  by_cases h1 : (!(ledgerFault l == 0)) = true
  · rw [if_pos h1]; dsimp only; omega
  · rw [if_neg h1]
    dsimp only
    by_cases h2 : (!inB id 1 l.texts.length) = true
    · rw [if_pos h2]; dsimp only; omega
    · rw [if_neg h2]
      by_cases h3 : (readT (getS l.texts id).data.toList).2 = true
      · rw [if_pos h3]
        have := nTx_small (readT_ok h3).1
        dsimp only
        omega
      · rw [if_neg h3]; dsimp only; omega
theorem law_TxIn (l : TLedger) (id : Int) (l_l : limLedger l) : PCalls Tryz.prog 4 [ledgerE.val l, .int .i64 id] (.bool true) := by
  by_cases h_l : szI (nLedger l) (1048576) < 0
  · refine PCalls.flat rfl ?_; refine ACalls.enter (n := 74) (rs := [.tmp 4]) Tryz.func4 rfl rfl rfl (by kernel_rfl) (by kernel_rfl) (by kernel_rfl) (Nat.le_of_ble_eq_true rfl) ?_
    repeat' (first | (refine ACalls.start ?_; first | (refine ACalls.ofJi (laws_szLedger l (1048576) (by omega) (by omega) l_l) rfl ?_)) | (refine KV.run _ ?_) | (refine KT.run _ ?_) | (refine AWp.seqH fun KC => ?_) | (refine AWp.region ?_) | (refine AWp.ret ?_) | (refine aops_callH rfl fun kC => ?_) | (refine AWp.condB ?_) | (simp only [bse, wk, tys, storeH_ptr, Nat.reduceEqDiff, ↓reduceIte, reduceCtorEq, Nat.reduceAdd, Nat.reduceLeDiff, Int.reduceBEq, Int.reduceLT, Int.reduceLE, Int.reduceEq, ne_eq, not_false_eq_true, Nat.reduceMul, ledgerE_val, ledgerE_sz, signE_val, signE_sz, txResultE_val, txResultE_sz, txE_val, txE_sz, refE_val, refE_sz, outE_val, outE_sz, ruleE_val, ruleE_sz, *]))
  have n_l : nLedger l ≤ 1048576 := by unfold szI at *; (repeat' split at *) <;> omega
  have hR := nR_TxIn l id n_l
  obtain ⟨w, hw⟩ : ∃ w, w = txInF l id := ⟨_, rfl⟩
  have hspec := spec_TxIn l id n_l
  have himpl := impl_TxIn l id n_l
  rw [← hw] at hR hspec himpl
  clear hw
  have hm_l : mLedger l ≤ 100000000 := by have := nStrS_len l.texts; first | omega | (simp only [mTxResult, nTxResult, mTx, nTx, mLedger, nLedger] at *; omega)
  have hmR : mTxResult w ≤ 100000000 := by
    have hml := mOutS_le w.tx.outs
    simp only [mTxResult, nTxResult, mTx, nTx, mLedger, nLedger] at hR ⊢; omega
  have hqR : ¬ (1 : Int) + ((mTxResult w : Nat) : Int) < 0 := by omega
  have heq := laws_eqTxResult w hR
  simp only [txResultE_val] at heq hspec himpl
  have himp2 := himpl.p
  refine PCalls.flat rfl ?_; refine ACalls.enter (n := 74) (rs := [.tmp 4]) Tryz.func4 rfl rfl rfl (by kernel_rfl) (by kernel_rfl) (by kernel_rfl) (Nat.le_of_ble_eq_true rfl) ?_
  repeat' (first | (refine ACalls.start ?_; first | (refine ACalls.ofJi (laws_szLedger l (1048576) (by omega) (by omega) l_l) rfl ?_) | (refine ACalls.ofJi (laws_toLedger l n_l) rfl ?_)) | (refine KV.run _ ?_) | (refine KT.run _ ?_) | (refine AWp.seqH fun KC => ?_) | (refine AWp.region ?_) | (refine AWp.skip ?_) | (refine aops_callH rfl fun kC => ?_) | (refine AWp.condB ?_) | (simp only [bse, wk, tys, storeH_ptr, Nat.reduceEqDiff, ↓reduceIte, reduceCtorEq, Nat.reduceAdd, Nat.reduceLeDiff, Int.reduceBEq, Int.reduceLT, Int.reduceLE, Int.reduceEq, ne_eq, not_false_eq_true, Nat.reduceMul, ledgerE_val, ledgerE_sz, signE_val, signE_sz, txResultE_val, txResultE_sz, txE_val, txE_sz, refE_val, refE_sz, outE_val, outE_sz, ruleE_val, ruleE_sz, *]))
  refine ACalls.ofJ hspec rfl ?_ ?_ ?_
  · (repeat' (first | exact Im.nilL | refine Im.consL ?_ ?_ | refine Im.appL ?_ ?_ | exact Im.flat _ rfl | exact islE_im _ _ | exact Enc.val_im _ _ | assumption | refine Im.aggL ?_ | refine Im.tupleL ?_ | refine Im.funcL ?_ | refine Im.funcA ?_ | refine Im.isl ?_ | refine Im.ip ?_)); done
  · (repeat' (first | exact Im.nilL | refine Im.consL ?_ ?_ | refine Im.appL ?_ ?_ | exact Im.flat _ rfl | exact islE_im _ _ | exact Enc.val_im _ _ | assumption | refine Im.aggL ?_ | refine Im.tupleL ?_ | refine Im.funcL ?_ | refine Im.funcA ?_ | refine Im.isl ?_ | refine Im.ip ?_)); done
  clear hspec
  repeat' (first | (refine KV.run _ ?_) | (refine KT.run _ ?_) | (refine AWp.seqH fun KC => ?_) | (refine AWp.region ?_) | (refine aops_callH rfl fun kC => ?_) | (simp only [bse, wk, tys, storeH_ptr, Nat.reduceEqDiff, ↓reduceIte, reduceCtorEq, Nat.reduceAdd, Nat.reduceLeDiff, Int.reduceBEq, Int.reduceLT, Int.reduceLE, Int.reduceEq, ne_eq, not_false_eq_true, Nat.reduceMul, ledgerE_val, ledgerE_sz, signE_val, signE_sz, txResultE_val, txResultE_sz, txE_val, txE_sz, refE_val, refE_sz, outE_val, outE_sz, ruleE_val, ruleE_sz, *]))
  refine ACalls.absL ?_
  intro H1 hc
  have hb0 := hc.bx 0 rfl
  have hb1 := hc.bx 1 rfl
  try simp only [List.length_nil, Nat.zero_add, Nat.reduceAdd] at hb0 hb1
  have ha0 := fun b : Blk => get_old (L := [b]) hb0
  have ha1 := fun b : Blk => get_old (L := [b]) hb1
  skip
  refine ACalls.get (NCalls.use (own_toLedger l n_l) (BorL.same (by repeat' (first | exact Im.nilL | refine Im.consL ?_ ?_ | refine Im.appL ?_ ?_ | exact Im.flat _ rfl | exact islE_im _ _ | exact Enc.val_im _ _ | assumption | refine Im.aggL ?_ | refine Im.funcL ?_ | refine Im.funcA ?_ | refine Im.isl ?_ | refine Im.ip ?_)))) (by first | exact Nat.le_refl _ | exact Nat.zero_le _ | (simp only [List.length_append, List.length_cons, List.length_nil]; omega) | (simp only [List.length_set]; omega) | omega) (by first | exact Nat.le_refl _ | exact Nat.zero_le _ | (simp only [List.length_append, List.length_cons, List.length_nil]; omega) | (simp only [List.length_set]; omega) | omega) ?_
  rintro d0 H2 ⟨S0, hN0⟩
  have px0 := hN0.own
  rw [ledgerE_val] at px0
  obtain ⟨xsx0, rfl, ox0⟩ := OwnL.aggI px0
  clear px0
  obtain ⟨d_x0_0, m_x0_0, S_x0_0, R_x0_0, rfl, rfl, p_x0_0, ox0_n1⟩ := OwnL.consI ox0
  obtain ⟨a_x0_0, n_x0_0, v_x0_0, rfl⟩ := OwnL.slD p_x0_0
  obtain ⟨d_x0_1, m_x0_1, S_x0_1, R_x0_1, rfl, rfl, p_x0_1, ox0_n2⟩ := OwnL.consI ox0_n1
  obtain ⟨a_x0_1, n_x0_1, v_x0_1, rfl⟩ := OwnL.slD p_x0_1
  obtain ⟨rfl, rfl⟩ := OwnL.nilI ox0_n2
  clear ox0_n1 ox0_n2
  have hc := hc.new hN0
  clear hN0
  simp only [List.nil_append, List.cons_append] at hc
  clear hb0 ha0 hb1 ha1
  have hb0 := hc.bx 0 rfl
  have hb1 := hc.bx 1 rfl
  try simp only [List.length_nil, Nat.zero_add, Nat.reduceAdd] at hb0 hb1
  have ha0 := fun b : Blk => get_old (L := [b]) hb0
  have ha1 := fun b : Blk => get_old (L := [b]) hb1
  repeat' (first | (refine KV.run _ ?_) | (refine KT.run _ ?_) | (refine AWp.seqH fun KC => ?_) | (refine AWp.region ?_) | (refine aops_callH rfl fun kC => ?_) | (simp only [bse, wk, tys, storeH_ptr, Nat.reduceEqDiff, ↓reduceIte, reduceCtorEq, Nat.reduceAdd, Nat.reduceLeDiff, Int.reduceBEq, Int.reduceLT, Int.reduceLE, Int.reduceEq, ne_eq, not_false_eq_true, Nat.reduceMul, ledgerE_val, ledgerE_sz, signE_val, signE_sz, txResultE_val, txResultE_sz, txE_val, txE_sz, refE_val, refE_sz, outE_val, outE_sz, ruleE_val, ruleE_sz, *]))
  refine ACalls.absb hc ?_
  intro H3 hc
  clear hb0 ha0 hb1 ha1
  have hb0 := hc.bx 0 rfl
  have hb1 := hc.bx 1 rfl
  have hb2 := hc.bx 2 rfl
  try simp only [List.length_nil, Nat.zero_add, Nat.reduceAdd] at hb0 hb1 hb2
  have ha0 := fun b : Blk => get_old (L := [b]) hb0
  have ha1 := fun b : Blk => get_old (L := [b]) hb1
  have ha2 := fun b : Blk => get_old (L := [b]) hb2
  refine ACalls.get (NCalls.use himpl (.cons (hc.get 0 rfl).bor1 (.cons (.same _ (by first | exact islE_im _ _ | exact Enc.val_im _ _ | exact Im.flat _ rfl | (repeat' (first | exact Im.nilL | refine Im.consL ?_ ?_ | exact Im.flat _ rfl | exact islE_im _ _ | exact Enc.val_im _ _ | refine Im.aggL ?_ | refine Im.tupleL ?_ | refine Im.isl ?_)))) (.nil)))) (by first | exact Nat.le_refl _ | exact Nat.zero_le _ | (simp only [List.length_append, List.length_cons, List.length_nil]; omega) | (simp only [List.length_set]; omega) | omega) (by first | exact Nat.le_refl _ | exact Nat.zero_le _ | (simp only [List.length_append, List.length_cons, List.length_nil]; omega) | (simp only [List.length_set]; omega) | omega) ?_
  rintro dg H4 ⟨Sg, hNg⟩
  have og0 := hNg.own
  obtain ⟨xg, rfl, og⟩ := OwnL.aggI og0
  clear og0
  obtain ⟨m_g_0, rfl, og_n1⟩ := OwnL.flatI og rfl
  obtain ⟨m_g_1, rfl, og_n2⟩ := OwnL.flatI og_n1 rfl
  obtain ⟨m_g_2, rfl, og_n3⟩ := OwnL.flatI og_n2 rfl
  obtain ⟨d_g_3, m_g_3, S_g_3, R_g_3, rfl, rfl, p_g_3, og_n4⟩ := OwnL.consI og_n3
  obtain ⟨a_g_3, n_g_3, v_g_3, rfl⟩ := OwnL.slD p_g_3
  obtain ⟨d_g_4, m_g_4, S_g_4, R_g_4, rfl, rfl, p_g_4, og_n5⟩ := OwnL.consI og_n4
  obtain ⟨a_g_4, n_g_4, v_g_4, rfl⟩ := OwnL.slD p_g_4
  obtain ⟨rfl, rfl⟩ := OwnL.nilI og_n5
  clear og_n1 og_n2 og_n3 og_n4 og_n5
  have hc := hc.new hNg
  clear hNg
  simp only [List.nil_append, List.cons_append] at hc
  clear hb0 ha0 hb1 ha1 hb2 ha2
  have hb0 := hc.bx 0 rfl
  have hb1 := hc.bx 1 rfl
  have hb2 := hc.bx 2 rfl
  try simp only [List.length_nil, Nat.zero_add, Nat.reduceAdd] at hb0 hb1 hb2
  have ha0 := fun b : Blk => get_old (L := [b]) hb0
  have ha1 := fun b : Blk => get_old (L := [b]) hb1
  have ha2 := fun b : Blk => get_old (L := [b]) hb2
  repeat' (first | (refine KV.run _ ?_) | (refine KT.run _ ?_) | (refine AWp.seqH fun KC => ?_) | (refine AWp.region ?_) | (refine aops_callH rfl fun kC => ?_) | (simp only [bse, wk, tys, storeH_ptr, Nat.reduceEqDiff, ↓reduceIte, reduceCtorEq, Nat.reduceAdd, Nat.reduceLeDiff, Int.reduceBEq, Int.reduceLT, Int.reduceLE, Int.reduceEq, ne_eq, not_false_eq_true, Nat.reduceMul, ledgerE_val, ledgerE_sz, signE_val, signE_sz, txResultE_val, txResultE_sz, txE_val, txE_sz, refE_val, refE_sz, outE_val, outE_sz, ruleE_val, ruleE_sz, *]))
  refine ACalls.absb hc ?_
  intro H5 hc
  clear hb0 ha0 hb1 ha1 hb2 ha2
  have hb0 := hc.bx 0 rfl
  have hb1 := hc.bx 1 rfl
  have hb2 := hc.bx 2 rfl
  have hb3 := hc.bx 3 rfl
  try simp only [List.length_nil, Nat.zero_add, Nat.reduceAdd] at hb0 hb1 hb2 hb3
  have ha0 := fun b : Blk => get_old (L := [b]) hb0
  have ha1 := fun b : Blk => get_old (L := [b]) hb1
  have ha2 := fun b : Blk => get_old (L := [b]) hb2
  have ha3 := fun b : Blk => get_old (L := [b]) hb3
  refine ACalls.ofP (heq) (.cons (hc.get 1 rfl).bor1 (.cons (.same _ (by first | exact islE_im _ _ | exact Enc.val_im _ _ | exact Im.flat _ rfl | (repeat' (first | exact Im.nilL | refine Im.consL ?_ ?_ | exact Im.flat _ rfl | exact islE_im _ _ | exact Enc.val_im _ _ | refine Im.aggL ?_ | refine Im.tupleL ?_ | refine Im.isl ?_)))) (.nil))) rfl ?_
  repeat' (first | (refine AWp.mixed (id := 10) [(0, 0), (1, 0), (2, 1), (3, 1), (4, 0)] (by kernel_rfl) (by kernel_rfl) ?_) | (refine ACalls.start ?_; first | (refine ACalls.ofJi (laws_toLedger l n_l) rfl ?_)) | (refine KV.run _ ?_) | (refine KT.run _ ?_) | (refine AWp.seqH fun KC => ?_) | (refine mops_step0 rfl rfl fun KC => ?_) | (refine mops_step1 rfl fun KC => ?_) | (refine AWp.skip ?_) | (refine aops_callH rfl fun kC => ?_) | (refine AWp.condB ?_) | (simp only [bse, wk, tys, storeH_ptr, Nat.reduceEqDiff, ↓reduceIte, reduceCtorEq, Nat.reduceAdd, Nat.reduceLeDiff, Int.reduceBEq, Int.reduceLT, Int.reduceLE, Int.reduceEq, ne_eq, not_false_eq_true, Nat.reduceMul, ledgerE_val, ledgerE_sz, signE_val, signE_sz, txResultE_val, txResultE_sz, txE_val, txE_sz, refE_val, refE_sz, outE_val, outE_sz, ruleE_val, ruleE_sz, *]))
  refine ACalls.ofP (laws_eqLedger l n_l) (.cons (hc.get 0 rfl).bor1 (.cons (.same _ (by first | exact islE_im _ _ | exact Enc.val_im _ _ | exact Im.flat _ rfl | (repeat' (first | exact Im.nilL | refine Im.consL ?_ ?_ | exact Im.flat _ rfl | exact islE_im _ _ | exact Enc.val_im _ _ | refine Im.aggL ?_ | refine Im.tupleL ?_ | refine Im.isl ?_)))) (.nil))) rfl ?_
  repeat' (first | (refine KV.run _ ?_) | (refine KT.run _ ?_) | (refine AWp.seqH fun KC => ?_) | (refine AWp.region ?_) | (refine mops_step0 rfl rfl fun KC => ?_) | (refine AWp.skip ?_) | (refine aops_callH rfl fun kC => ?_) | (refine AWp.condB ?_) | (simp only [bse, wk, tys, storeH_ptr, Nat.reduceEqDiff, ↓reduceIte, reduceCtorEq, Nat.reduceAdd, Nat.reduceLeDiff, Int.reduceBEq, Int.reduceLT, Int.reduceLE, Int.reduceEq, ne_eq, not_false_eq_true, Nat.reduceMul, ledgerE_val, ledgerE_sz, signE_val, signE_sz, txResultE_val, txResultE_sz, txE_val, txE_sz, refE_val, refE_sz, outE_val, outE_sz, ruleE_val, ruleE_sz, *]))
  refine ACalls.get (mko_Ledger l n_l _ _ _ (1) (hc.get 0 rfl) (hc.getNd 0 rfl) (by omega) (by omega)) (by first | exact Nat.le_refl _ | exact Nat.zero_le _ | (simp only [List.length_append, List.length_cons, List.length_nil]; omega) | (simp only [List.length_set]; omega) | omega) (by first | exact Nat.le_refl _ | exact Nat.zero_le _ | (simp only [List.length_append, List.length_cons, List.length_nil]; omega) | (simp only [List.length_set]; omega) | omega) ?_
  rintro _ H6 ⟨rfl, hM0⟩
  obtain ⟨y0, hc⟩ := hc.mark0 0 rfl hM0
  clear hM0
  simp only [List.set_cons_zero, List.set_cons_succ] at hc
  clear hb0 ha0 hb1 ha1 hb2 ha2 hb3 ha3
  have hb0 := hc.bx 0 rfl
  have hb1 := hc.bx 1 rfl
  have hb2 := hc.bx 2 rfl
  have hb3 := hc.bx 3 rfl
  try simp only [List.length_nil, Nat.zero_add, Nat.reduceAdd] at hb0 hb1 hb2 hb3
  have ha0 := fun b : Blk => get_old (L := [b]) hb0
  have ha1 := fun b : Blk => get_old (L := [b]) hb1
  have ha2 := fun b : Blk => get_old (L := [b]) hb2
  have ha3 := fun b : Blk => get_old (L := [b]) hb3
  have hk0 : ¬ 1 + ((mLedger l : Nat) : Int) < 0 := by omega
  repeat' (first | (refine KV.run _ ?_) | (refine KT.run _ ?_) | (refine AWp.seqH fun KC => ?_) | (refine AWp.region ?_) | (refine aops_callH rfl fun kC => ?_) | (simp only [bse, wk, tys, storeH_ptr, Nat.reduceEqDiff, ↓reduceIte, reduceCtorEq, Nat.reduceAdd, Nat.reduceLeDiff, Int.reduceBEq, Int.reduceLT, Int.reduceLE, Int.reduceEq, ne_eq, not_false_eq_true, Nat.reduceMul, ledgerE_val, ledgerE_sz, signE_val, signE_sz, txResultE_val, txResultE_sz, txE_val, txE_sz, refE_val, refE_sz, outE_val, outE_sz, ruleE_val, ruleE_sz, *]))
  refine ACalls.ofP (heq) (.cons (hc.get 1 rfl).bor1 (.cons (.same _ (by first | exact islE_im _ _ | exact Enc.val_im _ _ | exact Im.flat _ rfl | (repeat' (first | exact Im.nilL | refine Im.consL ?_ ?_ | exact Im.flat _ rfl | exact islE_im _ _ | exact Enc.val_im _ _ | refine Im.aggL ?_ | refine Im.tupleL ?_ | refine Im.isl ?_)))) (.nil))) rfl ?_
  repeat' (first | (refine KV.run _ ?_) | (refine KT.run _ ?_) | (refine AWp.seqH fun KC => ?_) | (refine AWp.region ?_) | (refine AWp.skip ?_) | (refine aops_callH rfl fun kC => ?_) | (refine AWp.condB ?_) | (simp only [bse, wk, tys, storeH_ptr, Nat.reduceEqDiff, ↓reduceIte, reduceCtorEq, Nat.reduceAdd, Nat.reduceLeDiff, Int.reduceBEq, Int.reduceLT, Int.reduceLE, Int.reduceEq, ne_eq, not_false_eq_true, Nat.reduceMul, ledgerE_val, ledgerE_sz, signE_val, signE_sz, txResultE_val, txResultE_sz, txE_val, txE_sz, refE_val, refE_sz, outE_val, outE_sz, ruleE_val, ruleE_sz, *]))
  refine ACalls.get (mk_TxResult w hR _ _ _ 1 (hc.get 1 rfl) (hc.getNd 1 rfl) (by omega) (by omega)) (by first | exact Nat.le_refl _ | exact Nat.zero_le _ | (simp only [List.length_append, List.length_cons, List.length_nil]; omega) | (simp only [List.length_set]; omega) | omega) (by first | exact Nat.le_refl _ | exact Nat.zero_le _ | (simp only [List.length_append, List.length_cons, List.length_nil]; omega) | (simp only [List.length_set]; omega) | omega) ?_
  rintro _ H7 ⟨rfl, hMg⟩
  obtain ⟨yg, hyg, hc⟩ := hc.mark 1 rfl hMg
  clear hMg
  simp only [List.set_cons_zero, List.set_cons_succ] at hc
  clear hb0 ha0 hb1 ha1 hb2 ha2 hb3 ha3
  have hb0 := hc.bx 0 rfl
  have hb1 := hc.bx 1 rfl
  have hb2 := hc.bx 2 rfl
  have hb3 := hc.bx 3 rfl
  try simp only [List.length_nil, Nat.zero_add, Nat.reduceAdd] at hb0 hb1 hb2 hb3
  have ha0 := fun b : Blk => get_old (L := [b]) hb0
  have ha1 := fun b : Blk => get_old (L := [b]) hb1
  have ha2 := fun b : Blk => get_old (L := [b]) hb2
  have ha3 := fun b : Blk => get_old (L := [b]) hb3
  repeat' (first | (refine KV.run _ ?_) | (refine KT.run _ ?_) | (refine AWp.seqH fun KC => ?_) | (refine AWp.region ?_) | (refine aops_callH rfl fun kC => ?_) | (simp only [bse, wk, tys, storeH_ptr, Nat.reduceEqDiff, ↓reduceIte, reduceCtorEq, Nat.reduceAdd, Nat.reduceLeDiff, Int.reduceBEq, Int.reduceLT, Int.reduceLE, Int.reduceEq, ne_eq, not_false_eq_true, Nat.reduceMul, ledgerE_val, ledgerE_sz, signE_val, signE_sz, txResultE_val, txResultE_sz, txE_val, txE_sz, refE_val, refE_sz, outE_val, outE_sz, ruleE_val, ruleE_sz, *]))
  refine ACalls.ofP (hyg) ((hc.get 1 rfl).bork) rfl ?_
  repeat' (first | (refine ACalls.start ?_; first | (refine ACalls.ofJi (laws_toLedger l n_l) rfl ?_)) | (refine KV.run _ ?_) | (refine KT.run _ ?_) | (refine AWp.seqH fun KC => ?_) | (refine AWp.region ?_) | (refine AWp.skip ?_) | (refine aops_callH rfl fun kC => ?_) | (refine AWp.condB ?_) | (simp only [bse, wk, tys, storeH_ptr, Nat.reduceEqDiff, ↓reduceIte, reduceCtorEq, Nat.reduceAdd, Nat.reduceLeDiff, Int.reduceBEq, Int.reduceLT, Int.reduceLE, Int.reduceEq, ne_eq, not_false_eq_true, Nat.reduceMul, ledgerE_val, ledgerE_sz, signE_val, signE_sz, txResultE_val, txResultE_sz, txE_val, txE_sz, refE_val, refE_sz, outE_val, outE_sz, ruleE_val, ruleE_sz, *]))
  refine ACalls.ofJ himp2 rfl ?_ ?_ ?_
  · (repeat' (first | exact Im.nilL | refine Im.consL ?_ ?_ | refine Im.appL ?_ ?_ | exact Im.flat _ rfl | exact islE_im _ _ | exact Enc.val_im _ _ | assumption | refine Im.aggL ?_ | refine Im.tupleL ?_ | refine Im.funcL ?_ | refine Im.funcA ?_ | refine Im.isl ?_ | refine Im.ip ?_)); done
  · (repeat' (first | exact Im.nilL | refine Im.consL ?_ ?_ | refine Im.appL ?_ ?_ | exact Im.flat _ rfl | exact islE_im _ _ | exact Enc.val_im _ _ | assumption | refine Im.aggL ?_ | refine Im.tupleL ?_ | refine Im.funcL ?_ | refine Im.funcA ?_ | refine Im.isl ?_ | refine Im.ip ?_)); done
  repeat' (first | (refine KV.run _ ?_) | (refine KT.run _ ?_) | (refine AWp.seqH fun KC => ?_) | (refine AWp.region ?_) | (refine aops_callH rfl fun kC => ?_) | (simp only [bse, wk, tys, storeH_ptr, Nat.reduceEqDiff, ↓reduceIte, reduceCtorEq, Nat.reduceAdd, Nat.reduceLeDiff, Int.reduceBEq, Int.reduceLT, Int.reduceLE, Int.reduceEq, ne_eq, not_false_eq_true, Nat.reduceMul, ledgerE_val, ledgerE_sz, signE_val, signE_sz, txResultE_val, txResultE_sz, txE_val, txE_sz, refE_val, refE_sz, outE_val, outE_sz, ruleE_val, ruleE_sz, *]))
  refine ACalls.absb hc ?_
  intro H8 hc
  clear hb0 ha0 hb1 ha1 hb2 ha2 hb3 ha3
  have hb0 := hc.bx 0 rfl
  have hb1 := hc.bx 1 rfl
  have hb2 := hc.bx 2 rfl
  have hb3 := hc.bx 3 rfl
  have hb4 := hc.bx 4 rfl
  try simp only [List.length_nil, Nat.zero_add, Nat.reduceAdd] at hb0 hb1 hb2 hb3 hb4
  have ha0 := fun b : Blk => get_old (L := [b]) hb0
  have ha1 := fun b : Blk => get_old (L := [b]) hb1
  have ha2 := fun b : Blk => get_old (L := [b]) hb2
  have ha3 := fun b : Blk => get_old (L := [b]) hb3
  have ha4 := fun b : Blk => get_old (L := [b]) hb4
  refine ACalls.ofP (heq) (.cons (.same _ (by first | exact islE_im _ _ | exact Enc.val_im _ _ | exact Im.flat _ rfl | (repeat' (first | exact Im.nilL | refine Im.consL ?_ ?_ | exact Im.flat _ rfl | exact islE_im _ _ | exact Enc.val_im _ _ | refine Im.aggL ?_ | refine Im.tupleL ?_ | refine Im.isl ?_)))) (.cons (.same _ (by first | exact islE_im _ _ | exact Enc.val_im _ _ | exact Im.flat _ rfl | (repeat' (first | exact Im.nilL | refine Im.consL ?_ ?_ | exact Im.flat _ rfl | exact islE_im _ _ | exact Enc.val_im _ _ | refine Im.aggL ?_ | refine Im.tupleL ?_ | refine Im.isl ?_)))) (.nil))) rfl ?_
  repeat' (first | (refine KV.run _ ?_) | (refine KT.run _ ?_) | (refine AWp.seqH fun KC => ?_) | (refine AWp.region ?_) | (refine AWp.skip ?_) | (refine aops_callH rfl fun kC => ?_) | (refine AWp.condB ?_) | (simp only [bse, wk, tys, storeH_ptr, Nat.reduceEqDiff, ↓reduceIte, reduceCtorEq, Nat.reduceAdd, Nat.reduceLeDiff, Int.reduceBEq, Int.reduceLT, Int.reduceLE, Int.reduceEq, ne_eq, not_false_eq_true, Nat.reduceMul, ledgerE_val, ledgerE_sz, signE_val, signE_sz, txResultE_val, txResultE_sz, txE_val, txE_sz, refE_val, refE_sz, outE_val, outE_sz, ruleE_val, ruleE_sz, *]))
  refine ACalls.ofP (hyg) ((hc.get 1 rfl).bork) rfl ?_
  repeat' (first | (refine KV.run _ ?_) | (refine KT.run _ ?_) | (refine AWp.seqH fun KC => ?_) | (refine AWp.region ?_) | (refine AWp.ret ?_) | (refine AWp.skip ?_) | (refine AWp.condB ?_) | (simp only [bse, wk, tys, storeH_ptr, Nat.reduceEqDiff, ↓reduceIte, reduceCtorEq, Nat.reduceAdd, Nat.reduceLeDiff, Int.reduceBEq, Int.reduceLT, Int.reduceLE, Int.reduceEq, ne_eq, not_false_eq_true, Nat.reduceMul, ledgerE_val, ledgerE_sz, signE_val, signE_sz, txResultE_val, txResultE_sz, txE_val, txE_sz, refE_val, refE_sz, outE_val, outE_sz, ruleE_val, ruleE_sz, *]))
end Go.BM
/- What the row's condition gives on the library's variables; and the builder of a row that has both its condition and the world's shape. -/
set_option linter.unusedVariables false
set_option maxRecDepth 100000
namespace Go
section
variable {H : Type} {enc : TypeId × Value → H}
theorem returnsInHanded_of_change_andS {a : Assume} {C : Checked} {os : Os} {f : FuncId} {fn : Func} {s : ChangeSpec} {conds : List PathCond} {apart fresh handsOn again : Bool} {X : World → Array Value → Prop}
    (hX : ∀ (w w' : World) (args : Array Value), w.heap = w'.heap → X w args → X w' args)
    (own : ownKnob C.prog.godebug = none) (started : os.Started) (noInit : C.prog.inits.idxOf? f = none) (hfn : C.prog.funcs[f]? = some fn)
    (witness : ∃ (w : World) (tape : Tape) (i : Input), w.os = os ∧ (w.forCall tape i).Shaped C.prog ∧ i.vars = [] ∧ Input.okWide C.prog (w.forCall tape i) .any w.heap.size f i ∧
      ((s.pre enc C.prog fn conds apart (w.forCall tape i).memory i.args ∧ X (w.forCall tape i).memory i.args) ∧ sizedMet enc C.prog fn (OpenSpec.ofChange s) apart (w.forCall tape i).memory i.args) ∧ a.holds C.prog (lone (Frame.enter C.prog f i.args .normal) [] (w.forCall tape i)))
    (contract : ∀ (W : World) (base : Nat) (args : Array Value) (ds gs : List (DataW H)) (before : List MemPlace),
      (∀ (j : Nat) t v, fn.params[j]? = some t → args[j]? = some v → Value.okWide C.prog W .any base t v) →
      DataW.Whole enc C.prog fn.params.toList s.vars apart W args.toList ds gs before →
      conds.all (PathCond.test C.prog ⟨fn.params.toList, ds, s.plain.varTypes C.prog, gs⟩) = true →
      (DataW.weightsEach C.prog (fn.params.toList ++ s.plain.varTypes C.prog) (ds ++ gs)).all (· ≤ reachBytes) = true → W.ShapedOpen C.prog → X W args →
      a.holds C.prog (lone (Frame.enter C.prog f args .normal) [] W) →
      Calls C.prog f args W fun e W' => ∃ v, e = .returned v ∧ s.post enc C.prog fn apart fresh handsOn again W args v W') :
    ReturnsInHanded a C os f .any (fun w args => (s.pre enc C.prog fn conds apart w args ∧ X w args) ∧ sizedMet enc C.prog fn (OpenSpec.ofChange s) apart w args) (s.post enc C.prog fn apart fresh handsOn again) := by
  refine returnsInHanded_of_calls own started noInit witness ?_
  intro w tape i _ hsh _ hok hpre hholds
  obtain ⟨_, _, _, fn', hfn', _, _, _, _, hval⟩ := hok
  have e : fn' = fn := Option.some.inj (hfn'.symm.trans hfn)
  subst e
  obtain ⟨⟨⟨ds, gs, before, hw, hc⟩, hx⟩, hz⟩ := hpre
  have hw' := DataW.Whole.of_heap (w' := w.forCall tape i) (by rfl) hw
  refine (contract (w.forCall tape i) w.heap.size i.args ds gs before hval hw' hc (hz.weights hw) hsh (hX _ _ _ (by rfl) hx) hholds).mono fun e W' ⟨v, he, hp⟩ => ?_
  subst he
  exact ChangeSpec.post_blind hp
end
theorem World.heap_of_var {P : Program} {w : World} {n : String} {g : Nat} {cs : Array Value} (hg : P.globalNamed n = some g) (h : w.var? P n = some cs) : ∃ ty mk, w.heap[g]? = some (.cells cs ty mk) := by
  simp only [World.var?, hg, Option.bind_some] at h
  split at h
  · rename_i cs' ty mk e
    cases h
    exact ⟨ty, mk, e⟩
  · cases h
end Go
namespace Go.BM
open Go.RowKit Go.Proofs Go.Proofs.YtboephigjgncaaaGreatDoor
theorem Tryz.gSynT : (Tryz.prog.globals[1]?).map (·.type) = some 138 := by kernel_rfl
theorem Tryz.gRngT : (Tryz.prog.globals[2]?).map (·.type) = some 138 := by kernel_rfl
theorem Tryz.gPowT : (Tryz.prog.globals[5]?).map (·.type) = some 208 := by kernel_rfl
theorem Tryz.star : "*" ++ "errors.errorString" = "*errors.errorString" := by decide
theorem Tryz.rowE (u : TypeId) (h : Tryz.prog.typeName? 3 u = some "*errors.errorString") : u = 204 :=
  typeName_ptr_named (nm := "errors.errorString") (by rw [Tryz.star]; kernel_rfl) (by kernel_rfl) (by decide) u (by rw [Tryz.star]; exact h)
theorem Tryz.maxCell {W : World} (h : W.ShapedOpen Tryz.prog) : ∃ m, W.cell? ⟨0, 0, none⟩ = some (.int .i64 m) :=
  cell_of_shapedOpen_int (t := 3) (zero := #[.int .i64 0]) h (of_decide_eq_true (by kernel_rfl)) (by kernel_rfl) rfl (by kernel_rfl) (by kernel_rfl) (by kernel_rfl)
theorem gi_of_list {W : World} {d0 d1 d3 d6 : DataW Unit} {n0 n1 n3 n6 : String} (hsh : W.ShapedOpen Tryz.prog)
    (hL : laidMet Tryz.prog [(n0, d0), (n1, d1), ("internal/strconv.uint64pow10", Rows.laid_internal_strconv_uint64pow10), (n3, d3), ("strconv.ErrRange", Rows.laid_strconv_ErrRange), ("strconv.ErrSyntax", Rows.laid_strconv_ErrSyntax), (n6, d6)] W) : GI (allM W).im W := by
  have t2 := hL.tail.tail
  have t4 := t2.tail.tail
  have t5 := t4.tail
  have hp : (Rows.laid_internal_strconv_uint64pow10 : DataW Unit) = Lib.tabData .u64 Lib.pow10Tab := by kernel_rfl
  rw [hp] at t2
  have v5 := Lib.tabIs_of_head (n := 20) (e := 173) (t := 208) Tryz.gPow Tryz.gPowT (by kernel_rfl) (by kernel_rfl) (by kernel_rfl) (by kernel_rfl) t2
  have hs9 : Tryz.prog.underlying 9 = some .string := by kernel_rfl
  have c206 : Tryz.prog.cellsOf 206 = 1 := by kernel_rfl
  have c9 : Tryz.prog.cellsOf 9 = 1 := by kernel_rfl
  have u204 : Tryz.prog.underlying 204 = some (.pointer 206) := by kernel_rfl
  obtain ⟨ms, u138⟩ : ∃ ms, Tryz.prog.underlying 138 = some (.interface ms) := by
    have hq : (match Tryz.prog.underlying 138 with | some (.interface _) => true | _ => false) = true := by kernel_rfl
    split at hq
    case h_2 => cases hq
    rename_i ms hms
    exact ⟨ms, hms⟩
  obtain ⟨f, u206, f1, f2⟩ : ∃ f : Field, Tryz.prog.underlying 206 = some (.struct #[f]) ∧ f.type = 9 ∧ f.offset = 0 := by
    have hq : (match Tryz.prog.underlying 206 with | some (.struct fs) => (match fs.toList with | [f] => decide (f.type = 9) && decide (f.offset = 0) | _ => false) | _ => false) = true := by kernel_rfl
    split at hq
    case h_2 => cases hq
    rename_i fs hfs
    split at hq
    case h_2 => cases hq
    rename_i f hf
    obtain ⟨x1, x2⟩ : f.type = 9 ∧ f.offset = 0 := by simpa using hq
    have hfs' : fs = #[f] := by rw [← Array.toList_inj, hf]
    exact ⟨f, by rw [hfs, hfs'], x1, x2⟩
  obtain ⟨a2, s2, v2, _⟩ := laid_sentinel t4 Tryz.gRng Tryz.gRngT u138 Tryz.rowE u204 u206 f1 f2 hs9 c206 c9
  obtain ⟨a1, s1, v1, _⟩ := laid_sentinel t5 Tryz.gSyn Tryz.gSynT u138 Tryz.rowE u204 u206 f1 f2 hs9 c206 c9
  obtain ⟨m, h0⟩ := Tryz.maxCell hsh
  have c1 : W.cell? ⟨1, 0, none⟩ = some (.iface 204 (.pointer (some a1))) := by simpa using World.var?_cell Tryz.gSyn v1 0
  have c2 : W.cell? ⟨2, 0, none⟩ = some (.iface 204 (.pointer (some a2))) := by simpa using World.var?_cell Tryz.gRng v2 0
  have hV : (Lib.pow10Tab.map fun z => Value.int .u64 z).toArray = pow10V := by kernel_rfl
  have v5' : W.var? Tryz.prog "internal/strconv.uint64pow10" = some pow10V := by rw [← hV]; exact v5
  have c5 : W.cell? ⟨5, 0, none⟩ = some (.int .u64 1) := by
    rw [World.var?_cell Tryz.gPow v5' 0]
    kernel_rfl
  exact ⟨⟨m, allM_im rfl h0 rfl⟩, ⟨_, _, allM_im rfl c1 rfl, World.heap_of_var Tryz.gSyn v1⟩, ⟨_, _, allM_im rfl c2 rfl, World.heap_of_var Tryz.gRng v2⟩, ⟨_, allM_im rfl c5 rfl, World.heap_of_var Tryz.gPow v5'⟩⟩
end Go.BM
/- What arguments are, as data. -/
set_option linter.unusedVariables false
set_option linter.unusedSimpArgs false
set_option maxRecDepth 100000
set_option maxHeartbeats 4000000
namespace Go.BM
open Go.Proofs Go.RowKit
attribute [local irreducible] ACalls AWp aops qops optK optP cK gateA condK mops qcallK PCalls loadV fldV idxV lenV slV storeH binS
theorem ab_StringS {n : Nat} {cs : List Value} (h : Ab Tryz.prog (n + 2) 22 cs) : ∃ ys : List ByteArray, cs = [islE strE ys] ∧ ys.length ≤ 9223372036854775807 ∧ ∀ y ∈ ys, y.size ≤ maxLen := by
  obtain ⟨ys, rfl, hn, hq⟩ := Ab.slE (E := strE) (Q := fun y => y.size ≤ maxLen) Tryz.underlying22 (fun x hx => by obtain ⟨y, rfl, hy⟩ := Ab.string Tryz.underlying9 hx; exact ⟨y, rfl, hy⟩) h
  exact ⟨ys, rfl, hn, hq⟩

theorem ab_Sign {n : Nat} {cs : List Value} (h : Ab Tryz.prog (n + 2) 80 cs) : ∃ y : TSign, cs = cellsV (signE.val y) := by
  obtain ⟨p0, q0, rfl, h0, p1, q1, rfl, h1, rfl⟩ := Ab.str Tryz.underlying80 h
  obtain ⟨y0, rfl, _⟩ := Ab.int Tryz.underlying2 h0
  obtain ⟨y1, rfl, _⟩ := Ab.int Tryz.underlying2 h1
  exact ⟨⟨y0, y1⟩, rfl⟩

theorem ab_SignS {n : Nat} {cs : List Value} (h : Ab Tryz.prog (n + 3) 23 cs) : ∃ ys : List TSign, cs = [islE signE ys] ∧ ys.length ≤ 9223372036854775807 := by
  obtain ⟨ys, rfl, hn, hq⟩ := Ab.slE (E := signE) (Q := fun y => True) Tryz.underlying23 (fun x hx => by obtain ⟨y, rfl⟩ := ab_Sign hx; exact ⟨y, rfl, trivial⟩) h
  exact ⟨ys, rfl, hn⟩

end Go.BM
/- What structs that hold slices are, as arguments. -/
set_option linter.unusedVariables false
set_option linter.unusedSimpArgs false
set_option maxRecDepth 100000
set_option maxHeartbeats 4000000
namespace Go.BM
open Go.Proofs Go.RowKit
attribute [local irreducible] ACalls AWp aops qops optK optP cK gateA condK mops qcallK PCalls loadV fldV idxV lenV slV storeH binS
theorem ab_Ledger {n : Nat} {cs : List Value} (h : Ab Tryz.prog (n + 4) 25 cs) : ∃ y : TLedger, cs = cellsV (ledgerE.val y) ∧ limLedger y := by
  obtain ⟨p0, q0, rfl, h0, p1, q1, rfl, h1, rfl⟩ := Ab.str Tryz.underlying25 h
  obtain ⟨y0, rfl, l0, m0⟩ := ab_StringS h0
  obtain ⟨y1, rfl, l1⟩ := ab_SignS h1
  exact ⟨⟨y0, y1⟩, rfl, ⟨⟨l0, m0⟩, l1⟩⟩
end Go.BM
/- The row and the card of FnExactTxIn. -/
namespace Go.Proofs.YtboephigjgncaaaGreatDoor.fnExactTxIn
open Go.ChangeShapes Go.WideShapes Go.ChangeAt Go.RowKit Go.BM
set_option linter.unusedVariables false
set_option maxRecDepth 100000
theorem own : ownKnob Tryz.prog.godebug = none := by kernel_rfl
theorem claim (zs : List Value) (h : AbVs Tryz.prog 8 Tryz.f4.params.toList zs) : PCalls Tryz.prog 4 zs (.bool true) := by
  rw [Tryz.params4] at h
  obtain ⟨a0, zs0, rfl, g0, r0⟩ := h.uncons
  obtain ⟨a1, zs1, rfl, g1, r1⟩ := r0.uncons
  obtain rfl := r1.done
  obtain ⟨c0, rfl, r0⟩ := AbV.str Tryz.underlying25 g0
  obtain ⟨l, rfl, l0⟩ := ab_Ledger r0
  obtain ⟨id, e1, _⟩ := Ab.int Tryz.underlying2 (AbV.one Tryz.underlying2 (by intro fs h; cases h) g1)
  cases e1
  exact law_TxIn l id l0
theorem lifted (os : Os) (started : os.Started) (H : Type) (enc : TypeId × Value → H) :
    ReturnsInHanded {} Tryz.checked os 4 .any (fun w args => (Rows.fnExactTxInSpec.pre enc Tryz.prog Tryz.f4 Rows.fnExactTxInRow.domain false w args ∧ laidMetH Tryz.prog Rows.fnExactTxInRow.laid w) ∧ sizedMet enc Tryz.prog Tryz.f4 (OpenSpec.ofChange Rows.fnExactTxInSpec) false w args)
      (Rows.fnExactTxInSpec.post enc Tryz.prog Tryz.f4 false true false false) := by
  refine returnsInHanded_of_change_andS (C := Tryz.checked) (X := fun w _ => laidMetH Tryz.prog Rows.fnExactTxInRow.laid w) (fun _ _ _ hh h => h.of_heap hh) own started (by kernel_rfl) Tryz.func4
    (ChangeSpec.witness_shaped (enc := enc) (C := Tryz.checked) (os := os) (X := fun w _ => laidMetH Tryz.prog Rows.fnExactTxInRow.laid w) false (World.laidAll Tryz.prog os Rows.fnExactTxInRow.laid) #[.agg #[.slice none 0 0, .slice none 0 0], .int .i64 0] 8 (World.laidAll_os _ _ _) (World.shaped_of_ZipB (by kernel_rfl) (by kernel_rfl)) (by kernel_rfl) (by kernel_rfl) (by kernel_rfl)
      (by rw [MakeChecks.laidMetH_plain _ _ _ (by kernel_rfl)]; exact laidMet_laidAll _ (by kernel_rfl) (by kernel_rfl))) ?_
  intro W base args ds gs before hval hW hcnd hsz0 hsh hL _
  rw [MakeChecks.laidMetH_plain _ _ _ (by kernel_rfl)] at hL
  have hG : GI (allM W).im W := gi_of_list hsh hL
  have hW' := hW
  obtain ⟨p, q, hA, hV, rfl, hfz, hnd⟩ := hW
  obtain ⟨zs, hvr, hab⟩ := open_args (n := 8) _ _ _ _ hA (fun j t v ht hv => hval j t v (by simpa using ht) (by simpa using hv)) (by kernel_rfl)
  obtain ⟨rfl, rfl⟩ := trodVars_none hV
  refine ((claim zs hab).run hG hvr).mono fun e W' ⟨he, bel⟩ => ?_
  subst he
  have hB := below_trodAll (by kernel_rfl) bel (by kernel_rfl) hA
  have hA2 := hA
  rw [Tryz.params4] at hA2
  obtain ⟨v0, vs0, d0, ds0, p0, q0, hargs0, rfl, rfl, h0, r0⟩ := trodAll_cons hA2
  obtain ⟨v1, vs1, d1, ds1, p1, q1, hargs1, rfl, rfl, h1, r1⟩ := trodAll_cons r0
  obtain ⟨rfl, rfl, rfl⟩ := trodAll_nil r1
  exact ⟨_, rfl, _, _, _, [], _, [], hW', trodAll_mk1 (shut_bool Tryz.underlying4 _), hB, rfl, bel.frame _, fun h => by cases h⟩
theorem over : Rows.fnExactTxInRow.holds Tryz.pinned (OpenSpec.ofChange Rows.fnExactTxInSpec) :=
  OpenClaim.holds_of_wide 4 Tryz.f4 rfl rfl rfl rfl rfl rfl rfl ⟨rfl, rfl, rfl, rfl, rfl⟩ rfl rfl rfl rfl rfl (by kernel_rfl) Tryz.func4 (by kernel_rfl)
    (of_decide_eq_true (by kernel_rfl)) (by unfold Func.isWrapper; first | (rw [if_pos (by decide +kernel)]; kernel_rfl) | (rw [if_neg (by decide +kernel)]; exact ⟨rfl, rfl⟩))
    (fun os started H enc _ => lifted os started H enc)
theorem card_holds : Rows.FnExactTxInCardSaid :=
  Claim7.holds_tied_plain_at .later [] [.data, .data, .data, .data, .sentinel, .sentinel, .pinned] true (true, "3724969dc245eae34e2e231c81f344224b400d3a3966c041219d1bf66e9023cf") true
    over (fun _ h => by cases h) (by kernel_rfl) (fun _ h => by cases h) fnExactTxIn_row_tie rfl ⟨rfl, rfl⟩ (by kernel_rfl) rfl
    (fun f fn hf hfn => by
      obtain rfl : f = 4 := Option.some.inj ((show Tryz.prog.funcNamed "loop.example/g00304/laws.FnExactTxIn" = some 4 by kernel_rfl).symm.trans hf) |>.symm
      obtain rfl : fn = Tryz.f4 := (Option.some.inj (Tryz.func4.symm.trans hfn)).symm
      exact ⟨by kernel_rfl, fun j t ht => by
        rw [Tryz.params4] at ht
        have hm : t ∈ [25, 2] := by simpa using Array.mem_of_getElem? ht
        have hall : ([25, 2].all fun u => !Tryz.prog.wantsStandIn u) = true := by kernel_rfl
        exact (show Tryz.prog.wantsStandIn t = false by simpa using List.all_eq_true.1 hall t hm)⟩)
    (by kernel_rfl)
end Go.Proofs.YtboephigjgncaaaGreatDoor.fnExactTxIn
namespace Go.Proofs.YtboephigjgncaaaGreatDoor
/-- The card, under a short name, for the claim. -/
theorem fnExactTxIn_holds : Rows.FnExactTxInCardSaid := fnExactTxIn.card_holds
end Go.Proofs.YtboephigjgncaaaGreatDoor
