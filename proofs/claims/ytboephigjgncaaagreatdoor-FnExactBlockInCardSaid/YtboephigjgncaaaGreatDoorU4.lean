/- Who owns what: slices and structs of the laws. -/
import Derived.Test.YtboephigjgncaaaGreatDoorU3
import Derived.Test.YtboephigjgncaaaGreatDoorC25
set_option linter.unusedVariables false
set_option linter.unusedSimpArgs false
set_option maxRecDepth 100000
set_option maxHeartbeats 4000000
namespace Go.BM
open Go.Proofs Go.RowKit
attribute [local irreducible] ACalls AWp aops qops optK optP cK gateA condK mops qcallK PCalls loadV fldV idxV lenV slV storeH binS
theorem mko_StringS (xs : List ByteArray) (hn : xs.length ≤ 1048576) : MCalls0 Tryz.prog 30 (islE strE xs) (xs.length) := by
  have := MCalls0.ofSl (P := Tryz.prog) (f := 30) (E := strE) (xs := xs) (mk := fun k n => marksS mt k n) (fun _ _ => marksS_len _ _ _) (fun k n => marksS_flat _ k n) (strE_flat xs) laws_markStringS0
    (fun H r ver el sz cs sp k hb hl hk hk2 => by
      simp only [strE_sz, Nat.mul_one] at hl ⊢
      exact laws_markStringS 0 H r xs.length ver el sz cs true sp k hb hl (fun _ => rfl) (Nat.zero_le _) hk hk2 hn)
  simpa only [strE_sz, Nat.mul_one] using this

theorem mko_SignS (xs : List TSign) (hn : xs.length ≤ 1048576) : MCalls0 Tryz.prog 31 (islE signE xs) (xs.length * 2) := by
  have := MCalls0.ofSl (P := Tryz.prog) (f := 31) (E := signE) (xs := xs) (mk := fun k n => marksC k n) (fun _ _ => marksC_len _ _) (fun k n => marksC_flat k n) (signE_flat xs) laws_markSignS0
    (fun H r ver el sz cs sp k hb hl hk hk2 => by
      simp only [signE_sz, Nat.mul_one] at hl ⊢
      exact laws_markSignS 0 H r xs.length ver el sz cs true sp k hb hl (fun _ => rfl) (Nat.zero_le _) hk hk2 hn)
  simpa only [signE_sz, Nat.mul_one] using this

theorem mko_Ledger (x : TLedger) (hn : nLedger x ≤ 1048576) : MCalls0 Tryz.prog 11 (ledgerE.val x) (mLedger x) := by
  unfold nLedger at hn
  unfold mLedger
  intro H d S k ho hnd hk hk2
  rw [ledgerE_val] at ho
  obtain ⟨xs, rfl, o⟩ := OwnL.aggI ho
  clear ho
  obtain ⟨d_0, m_0, S_0, R_0, rfl, rfl, p_0, o_n1⟩ := OwnL.consI o
  obtain ⟨a_0, n_0, v_0, rfl⟩ := OwnL.slD p_0
  obtain ⟨d_1, m_1, S_1, R_1, rfl, rfl, p_1, o_n2⟩ := OwnL.consI o_n1
  obtain ⟨a_1, n_1, v_1, rfl⟩ := OwnL.slD p_1
  obtain ⟨rfl, rfl⟩ := OwnL.nilI o_n2
  have hc : Cx H [(.slice a_0 n_0 v_0, islE strE x.texts, S_0), (.slice a_1 n_1 v_1, islE signE x.signs, S_1)] [] := ⟨by intro o ho; simp only [List.mem_cons, List.not_mem_nil, or_false] at ho; rcases ho with rfl | rfl <;> first | exact p_0 | exact p_1, by simpa using hnd, by simp⟩
  refine ACalls.enter (n := 14) (rs := [.tmp 4]) Tryz.func11 rfl rfl rfl (by kernel_rfl) (by kernel_rfl) (by kernel_rfl) (Nat.le_of_ble_eq_true rfl) ?_
  repeat' (first | (refine KV.run _ ?_) | (refine KQ.run _ ?_) | (refine KT.run _ ?_) | (refine AWp.seqH fun KC => ?_) | (refine AWp.block ?_) | (refine AWp.region ?_) | (refine mops_step0 rfl rfl fun KC => ?_) | (refine mops_step1 rfl fun KC => ?_) | (refine mops_step2 rfl fun KC => ?_) | (refine AWp.ret ?_) | (refine AWp.skip ?_) | (refine AWp.exit ?_) | (refine aops_callH rfl fun kC => ?_) | (refine qops_callH rfl fun kC => ?_) | (refine AWp.condB ?_) | (simp only [bse, wk, tys, storeH_ptr, Nat.reduceEqDiff, ↓reduceIte, reduceCtorEq, Nat.reduceAdd, Nat.reduceLeDiff, Int.reduceBEq, Int.reduceLT, Int.reduceLE, Int.reduceEq, ne_eq, not_false_eq_true, Nat.reduceMul, ledgerE_val, ledgerE_sz, *]) | (refine condK_bool (fun hb => ?_) (fun hb => ?_) <;> ((try simp only [Bool.not_eq_true', Bool.not_eq_false'] at hb) <;> (try (have hbe := of_decide_eq_true hb)) <;> (try (have hbe := eq_of_beq hb)))) | (refine aops_partB ?_) | (refine qops_partB ?_))
  refine ACalls.get (mko_StringS x.texts (by have := nStrS_len x.texts; omega) _ _ _ (k) ((hc.push _).get 0 rfl) (hc.getNd 0 rfl) (by omega) (by omega)) (by first | exact Nat.le_refl _ | exact Nat.zero_le _ | (simp only [List.length_append, List.length_cons, List.length_nil]; omega) | (simp only [List.length_set]; omega) | omega) (by first | exact Nat.le_refl _ | exact Nat.zero_le _ | (simp only [List.length_append, List.length_cons, List.length_nil]; omega) | (simp only [List.length_set]; omega) | omega) ?_
  rintro _ H0 ⟨rfl, hM0⟩
  obtain ⟨y0, hc0⟩ := (hc.push _).mark0 0 rfl hM0
  have hb0 := hc0.bx 0 rfl
  repeat' (first | (refine KV.run _ ?_) | (refine KQ.run _ ?_) | (refine KT.run _ ?_) | (refine AWp.seqH fun KC => ?_) | (refine AWp.block ?_) | (refine AWp.region ?_) | (refine mops_step0 rfl rfl fun KC => ?_) | (refine mops_step1 rfl fun KC => ?_) | (refine mops_step2 rfl fun KC => ?_) | (refine AWp.ret ?_) | (refine AWp.skip ?_) | (refine AWp.exit ?_) | (refine aops_callH rfl fun kC => ?_) | (refine qops_callH rfl fun kC => ?_) | (refine AWp.condB ?_) | (simp only [bse, wk, tys, storeH_ptr, Nat.reduceEqDiff, ↓reduceIte, reduceCtorEq, Nat.reduceAdd, Nat.reduceLeDiff, Int.reduceBEq, Int.reduceLT, Int.reduceLE, Int.reduceEq, ne_eq, not_false_eq_true, Nat.reduceMul, ledgerE_val, ledgerE_sz, *]) | (refine condK_bool (fun hb => ?_) (fun hb => ?_) <;> ((try simp only [Bool.not_eq_true', Bool.not_eq_false'] at hb) <;> (try (have hbe := of_decide_eq_true hb)) <;> (try (have hbe := eq_of_beq hb)))) | (refine aops_partB ?_) | (refine qops_partB ?_))
  refine ACalls.get (mko_SignS x.signs (by omega) _ _ _ (k + ((x.texts.length : Nat) : Int)) (hc0.get 1 rfl) (hc.getNd 1 rfl) (by omega) (by omega)) (by first | exact Nat.le_refl _ | exact Nat.zero_le _ | (simp only [List.length_append, List.length_cons, List.length_nil]; omega) | (simp only [List.length_set]; omega) | omega) (by first | exact Nat.le_refl _ | exact Nat.zero_le _ | (simp only [List.length_append, List.length_cons, List.length_nil]; omega) | (simp only [List.length_set]; omega) | omega) ?_
  rintro _ H1 ⟨rfl, hM1⟩
  obtain ⟨y1, hc1⟩ := hc0.mark0 1 rfl hM1
  have hb1 := hc1.bx 0 rfl
  repeat' (first | (refine KV.run _ ?_) | (refine KQ.run _ ?_) | (refine KT.run _ ?_) | (refine AWp.seqH fun KC => ?_) | (refine AWp.block ?_) | (refine AWp.region ?_) | (refine mops_step0 rfl rfl fun KC => ?_) | (refine mops_step1 rfl fun KC => ?_) | (refine mops_step2 rfl fun KC => ?_) | (refine AWp.ret ?_) | (refine AWp.skip ?_) | (refine AWp.exit ?_) | (refine aops_callH rfl fun kC => ?_) | (refine qops_callH rfl fun kC => ?_) | (refine AWp.condB ?_) | (simp only [bse, wk, tys, storeH_ptr, Nat.reduceEqDiff, ↓reduceIte, reduceCtorEq, Nat.reduceAdd, Nat.reduceLeDiff, Int.reduceBEq, Int.reduceLT, Int.reduceLE, Int.reduceEq, ne_eq, not_false_eq_true, Nat.reduceMul, ledgerE_val, ledgerE_sz, *]) | (refine condK_bool (fun hb => ?_) (fun hb => ?_) <;> ((try simp only [Bool.not_eq_true', Bool.not_eq_false'] at hb) <;> (try (have hbe := of_decide_eq_true hb)) <;> (try (have hbe := eq_of_beq hb)))) | (refine aops_partB ?_) | (refine qops_partB ?_))
  obtain ⟨k0, cs0, _, _, _, e0, _, _, _⟩ := OwnL.slY (hc1.get 0 rfl)
  cases e0
  haveI im0 : ImC (isl k0 cs0) := ⟨(hc1.get 0 rfl).im1⟩
  obtain ⟨k1, cs1, _, _, _, e1, _, _, _⟩ := OwnL.slY (hc1.get 1 rfl)
  cases e1
  haveI im1 : ImC (isl k1 cs1) := ⟨(hc1.get 1 rfl).im1⟩
  have ek : k + ((x.texts.length : Nat) : Int) + ((x.signs.length * 2 : Nat) : Int) = k + ((x.texts.length + x.signs.length * 2 : Nat) : Int) := by omega
  try rw [ek]
  try (refine And.intro ?_ ?_; focus (first | rfl | omega | (congr 1; omega)))
  refine ⟨by have := hM0.len; have := hM1.len; simp only [List.length_append, List.length_cons, List.length_nil] at *; omega, fun r hr hs => (hM1.old r (by have := hM0.len; have := hM1.len; simp only [List.length_append, List.length_cons, List.length_nil] at *; omega) (fun h => hs (by first | exact h | (simp at h ⊢; grind)))).trans ((hM0.old r (by have := hM0.len; have := hM1.len; simp only [List.length_append, List.length_cons, List.length_nil] at *; omega) (fun h => hs (by first | exact h | (simp at h ⊢; grind)))).trans (List.getElem?_append_left hr)), .agg #[isl k0 cs0, isl k1 cs1], ?_⟩
  have hS : OwnL true H1 [.agg #[.slice a_0 n_0 v_0, .slice a_1 n_1 v_1]] [.agg #[isl k0 cs0, isl k1 cs1]] _ := OwnL.aggL (OwnL.append (hc1.get 0 rfl) (OwnL.append (hc1.get 1 rfl) (.nil)))
  first | exact hS | simpa using hS
end Go.BM
