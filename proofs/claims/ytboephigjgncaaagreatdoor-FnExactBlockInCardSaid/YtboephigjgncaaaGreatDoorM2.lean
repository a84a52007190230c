/- Data: flat structs, their slices. -/
import Derived.Test.YtboephigjgncaaaGreatDoorD1
import Derived.Test.YtboephigjgncaaaGreatDoorM0
set_option linter.unusedVariables false
set_option linter.unusedSimpArgs false
set_option maxRecDepth 100000
set_option maxHeartbeats 4000000
namespace Go.BM
open Go.Proofs Go.RowKit
attribute [local irreducible] ACalls AWp aops qops optK optP cK gateA condK mops qcallK PCalls loadV fldV idxV lenV slV storeH binS

theorem laws_markStringS (B : Nat) (H : AH) (r n ver el sz : Nat) (cs : List Value) (o : Bool) (sp : Option Nat) (k : Int) (hb : H[r]? = some ⟨el, sz, cs, ver, o⟩) (hl : cs.length = n) (ho : n ≠ 0 → o = true) (hB : B ≤ r) (hk : 0 ≤ k) (hk2 : k ≤ 1000000000000000) (hn : n ≤ 1048576) :
    ACalls Tryz.prog B 30 [.slice (some ⟨r, 0, sp⟩) n ver, .int .i64 k] H fun d H' => d = .int .i64 (k + (n : Nat)) ∧ H' = H.set r ⟨el, sz, marksS mt k (n), ver, o⟩ := by
  have hr := lt_of_some hb
  refine ACalls.enter (n := 20) (rs := [.tmp 4]) Tryz.func30 rfl rfl rfl (by kernel_rfl) (by kernel_rfl) (by kernel_rfl) (Nat.le_of_ble_eq_true rfl) ?_
  repeat' (first | (refine KV.run _ ?_) | (refine KQ.run _ ?_) | (refine KT.run _ ?_) | (refine AWp.seqH fun KC => ?_) | (refine AWp.block ?_) | (refine AWp.region ?_) | (refine mops_step0 rfl rfl fun KC => ?_) | (refine mops_step1 rfl fun KC => ?_) | (refine mops_step2 rfl fun KC => ?_) | (refine AWp.ret ?_) | (refine AWp.skip ?_) | (refine AWp.exit ?_) | (refine aops_callH rfl fun kC => ?_) | (refine qops_callH rfl fun kC => ?_) | (refine AWp.condB ?_) | (simp only [bse, wk, tys, storeH_ptr, Nat.reduceEqDiff, ↓reduceIte, reduceCtorEq, Nat.reduceAdd, Nat.reduceLeDiff, Int.reduceBEq, Int.reduceLT, Int.reduceLE, Int.reduceEq, ne_eq, not_false_eq_true, Nat.reduceMul, *]) | (refine condK_bool (fun hb => ?_) (fun hb => ?_) <;> ((try simp only [Bool.not_eq_true', Bool.not_eq_false'] at hb) <;> (try (have hbe := of_decide_eq_true hb)) <;> (try (have hbe := eq_of_beq hb)))) | (refine aops_partB ?_) | (refine qops_partB ?_))
  refine AWp.loopH [6, 7, 8, 9, 12, 13, 14, 15, 16, 17, 18, 1, 10, 11, 5] (fun m e' H' => ∃ j : Nat, j ≤ n ∧ m = n - j ∧ e' 5 = .int .i64 j ∧ e' 1 = .int .i64 (k + (j : Nat)) ∧ H' = H.set r ⟨el, sz, marksS mt k (j) ++ cs.drop (j), ver, o⟩) n ⟨0, by omega, by omega, rfl, by simp [put, env0], by simp [marksS]; exact (set_same hb).symm⟩ ?_
  rintro m e' H' hA ⟨j, hj, rfl, h5, h1, rfl⟩ hJ
  have a0 := hA 0 rfl; have a4 := hA 4 rfl; try simp only [bse, wk, tys, storeH_ptr, Nat.reduceEqDiff, ↓reduceIte, reduceCtorEq, Nat.reduceAdd, Nat.reduceLeDiff, Int.reduceBEq, Int.reduceLT, Int.reduceLE, Int.reduceEq, ne_eq, not_false_eq_true, Nat.reduceMul] at a0 a4; clear hA
  by_cases hlt : j < n
  · have hlt' : (j : Int) < (n : Int) := by omega
    have hown : o = true := ho (by omega)
    subst hown
    have hg0 : (H.set r ⟨el, sz, marksS mt k (j) ++ cs.drop (j), ver, true⟩)[r]? = _ := List.getElem?_set_self hr
    have hs0 := markS_step (P := Tryz.prog) (B := B) (T := 9) (p := j) (k := k) (cs := cs) hg0 hB lay9 (by omega)
    rw [List.set_set] at hs0
    have hw0 : IntKind.i64.wrap (k + ((j : Nat) : Int) + 1) = k + ((j + 1 : Nat) : Int) := by rw [wr] <;> omega
    have hw := wr_succ (k := j) (by omega)
    repeat' (first | (refine ACalls.start ?_; first | (refine ACalls.ofJi (laws_markText _ (by omega)) rfl ?_)) | (refine qcall_start ?_; first | (refine qcallFi (laws_markText _ (by omega)) rfl ?_ ?_; (focus ((first | exact rfl | (simp [pureV, flatV]; done)))))) | (refine KV.run _ ?_) | (refine KQ.run _ ?_) | (refine KT.run _ ?_) | (refine AWp.seqH fun KC => ?_) | (refine AWp.block ?_) | (refine AWp.region ?_) | (refine mops_step0 rfl rfl fun KC => ?_) | (refine mops_step1 rfl fun KC => ?_) | (refine mops_step2 rfl fun KC => ?_) | (refine AWp.ret ?_) | (refine AWp.skip ?_) | (refine AWp.exit ?_) | (refine aops_callH rfl fun kC => ?_) | (refine qops_callH rfl fun kC => ?_) | (refine AWp.condB ?_) | (simp only [bse, wk, tys, Nat.reduceEqDiff, ↓reduceIte, reduceCtorEq, Nat.reduceAdd, Nat.reduceLeDiff, Int.reduceBEq, Int.reduceLT, Int.reduceLE, Int.reduceEq, ne_eq, not_false_eq_true, Nat.reduceMul, *]) | (refine condK_bool (fun hb => ?_) (fun hb => ?_) <;> ((try simp only [Bool.not_eq_true', Bool.not_eq_false'] at hb) <;> (try (have hbe := of_decide_eq_true hb)) <;> (try (have hbe := eq_of_beq hb)))) | (refine aops_partB ?_) | (refine qops_partB ?_))
    exact hJ.out _ _ ⟨n - (j + 1), by omega, j + 1, by omega, rfl, rfl, by simp only [put, if_true, if_false, reduceCtorEq, Nat.reduceEqDiff], rfl⟩ (by repeat (first | exact Agree.refl _ _ | assumption | refine Agree.put ?_ rfl _))
  · have hlt' : ¬ (j : Int) < (n : Int) := by omega
    have : j = n := by omega
    subst this
    have hg : (H.set r ⟨el, sz, marksS mt k (j) ++ cs.drop (j), ver, o⟩)[r]? = some ⟨el, sz, marksS mt k (j) ++ cs.drop (j), ver, o⟩ := List.getElem?_set_self hr
    have hd : cs.drop (j) = [] := List.drop_eq_nil_of_le (by omega)
    rw [hd, List.append_nil] at hg
    repeat' (first | (refine KV.run _ ?_) | (refine KQ.run _ ?_) | (refine KT.run _ ?_) | (refine AWp.seqH fun KC => ?_) | (refine AWp.block ?_) | (refine AWp.region ?_) | (refine mops_step0 rfl rfl fun KC => ?_) | (refine mops_step1 rfl fun KC => ?_) | (refine mops_step2 rfl fun KC => ?_) | (refine AWp.ret ?_) | (refine AWp.skip ?_) | (refine AWp.exit ?_) | (refine aops_callH rfl fun kC => ?_) | (refine qops_callH rfl fun kC => ?_) | (refine AWp.condB ?_) | (simp only [bse, wk, tys, storeH_ptr, Nat.reduceEqDiff, ↓reduceIte, reduceCtorEq, Nat.reduceAdd, Nat.reduceLeDiff, Int.reduceBEq, Int.reduceLT, Int.reduceLE, Int.reduceEq, ne_eq, not_false_eq_true, Nat.reduceMul, *]) | (refine condK_bool (fun hb => ?_) (fun hb => ?_) <;> ((try simp only [Bool.not_eq_true', Bool.not_eq_false'] at hb) <;> (try (have hbe := of_decide_eq_true hb)) <;> (try (have hbe := eq_of_beq hb)))) | (refine aops_partB ?_) | (refine qops_partB ?_))
theorem laws_markSignS (B : Nat) (H : AH) (r n ver el sz : Nat) (cs : List Value) (o : Bool) (sp : Option Nat) (k : Int) (hb : H[r]? = some ⟨el, sz, cs, ver, o⟩) (hl : cs.length = n * 2) (ho : n ≠ 0 → o = true) (hB : B ≤ r) (hk : 0 ≤ k) (hk2 : k ≤ 1000000000000000) (hn : n ≤ 1048576) :
    ACalls Tryz.prog B 31 [.slice (some ⟨r, 0, sp⟩) n ver, .int .i64 k] H fun d H' => d = .int .i64 (k + (n * 2 : Nat)) ∧ H' = H.set r ⟨el, sz, marksC k (n * 2), ver, o⟩ := by
  have hr := lt_of_some hb
  refine ACalls.enter (n := 27) (rs := [.tmp 4]) Tryz.func31 rfl rfl rfl (by kernel_rfl) (by kernel_rfl) (by kernel_rfl) (Nat.le_of_ble_eq_true rfl) ?_
  repeat' (first | (refine KV.run _ ?_) | (refine KQ.run _ ?_) | (refine KT.run _ ?_) | (refine AWp.seqH fun KC => ?_) | (refine AWp.block ?_) | (refine AWp.region ?_) | (refine mops_step0 rfl rfl fun KC => ?_) | (refine mops_step1 rfl fun KC => ?_) | (refine mops_step2 rfl fun KC => ?_) | (refine AWp.ret ?_) | (refine AWp.skip ?_) | (refine AWp.exit ?_) | (refine aops_callH rfl fun kC => ?_) | (refine qops_callH rfl fun kC => ?_) | (refine AWp.condB ?_) | (simp only [bse, wk, tys, storeH_ptr, Nat.reduceEqDiff, ↓reduceIte, reduceCtorEq, Nat.reduceAdd, Nat.reduceLeDiff, Int.reduceBEq, Int.reduceLT, Int.reduceLE, Int.reduceEq, ne_eq, not_false_eq_true, Nat.reduceMul, *]) | (refine condK_bool (fun hb => ?_) (fun hb => ?_) <;> ((try simp only [Bool.not_eq_true', Bool.not_eq_false'] at hb) <;> (try (have hbe := of_decide_eq_true hb)) <;> (try (have hbe := eq_of_beq hb)))) | (refine aops_partB ?_) | (refine qops_partB ?_))
  refine AWp.loopH [6, 7, 8, 9, 12, 13, 14, 15, 16, 17, 18, 1, 19, 20, 21, 22, 23, 24, 25, 10, 11, 5] (fun m e' H' => ∃ j : Nat, j ≤ n ∧ m = n - j ∧ e' 5 = .int .i64 j ∧ e' 1 = .int .i64 (k + (j * 2 : Nat)) ∧ H' = H.set r ⟨el, sz, marksC k (j * 2) ++ cs.drop (j * 2), ver, o⟩) n ⟨0, by omega, by omega, rfl, by simp [put, env0], by simp [marksC]; exact (set_same hb).symm⟩ ?_
  rintro m e' H' hA ⟨j, hj, rfl, h5, h1, rfl⟩ hJ
  have a0 := hA 0 rfl; have a4 := hA 4 rfl; try simp only [bse, wk, tys, storeH_ptr, Nat.reduceEqDiff, ↓reduceIte, reduceCtorEq, Nat.reduceAdd, Nat.reduceLeDiff, Int.reduceBEq, Int.reduceLT, Int.reduceLE, Int.reduceEq, ne_eq, not_false_eq_true, Nat.reduceMul] at a0 a4; clear hA
  by_cases hlt : j < n
  · have hlt' : (j : Int) < (n : Int) := by omega
    have hown : o = true := ho (by omega)
    subst hown
    have hg0 : (H.set r ⟨el, sz, marksC k (j * 2) ++ cs.drop (j * 2), ver, true⟩)[r]? = _ := List.getElem?_set_self hr
    have hs0 := mark_step (P := Tryz.prog) (B := B) (T := 2) (p := j * 2) (k := k) (cs := cs) hg0 hB lay2 (by omega)
    rw [List.set_set] at hs0
    have hw0 : IntKind.i64.wrap (k + ((j * 2 : Nat) : Int) + 1) = k + ((j * 2 + 1 : Nat) : Int) := by rw [wr] <;> omega
    have hg1 : (H.set r ⟨el, sz, marksC k (j * 2 + 1) ++ cs.drop (j * 2 + 1), ver, true⟩)[r]? = _ := List.getElem?_set_self hr
    have hs1 := mark_step (P := Tryz.prog) (B := B) (T := 2) (p := j * 2 + 1) (k := k) (cs := cs) hg1 hB lay2 (by omega)
    rw [List.set_set] at hs1
    have hw1 : IntKind.i64.wrap (k + ((j * 2 + 1 : Nat) : Int) + 1) = k + ((j * 2 + 1 + 1 : Nat) : Int) := by rw [wr] <;> omega
    have hw := wr_succ (k := j) (by omega)
    repeat' (first | (refine KV.run _ ?_) | (refine KQ.run _ ?_) | (refine KT.run _ ?_) | (refine AWp.seqH fun KC => ?_) | (refine AWp.block ?_) | (refine AWp.region ?_) | (refine mops_step0 rfl rfl fun KC => ?_) | (refine mops_step1 rfl fun KC => ?_) | (refine mops_step2 rfl fun KC => ?_) | (refine AWp.ret ?_) | (refine AWp.skip ?_) | (refine AWp.exit ?_) | (refine aops_callH rfl fun kC => ?_) | (refine qops_callH rfl fun kC => ?_) | (refine AWp.condB ?_) | (simp only [bse, wk, tys, Nat.reduceEqDiff, ↓reduceIte, reduceCtorEq, Nat.reduceAdd, Nat.reduceLeDiff, Int.reduceBEq, Int.reduceLT, Int.reduceLE, Int.reduceEq, ne_eq, not_false_eq_true, Nat.reduceMul, *]) | (refine condK_bool (fun hb => ?_) (fun hb => ?_) <;> ((try simp only [Bool.not_eq_true', Bool.not_eq_false'] at hb) <;> (try (have hbe := of_decide_eq_true hb)) <;> (try (have hbe := eq_of_beq hb)))) | (refine aops_partB ?_) | (refine qops_partB ?_))
    exact hJ.out _ _ ⟨n - (j + 1), by omega, j + 1, by omega, rfl, rfl, by simp only [put, if_true, if_false, reduceCtorEq, Nat.reduceEqDiff]; rw [show (j + 1) * 2 = j * 2 + 1 + 1 by omega], by rw [show (j + 1) * 2 = j * 2 + 2 by omega]⟩ (by repeat (first | exact Agree.refl _ _ | assumption | refine Agree.put ?_ rfl _))
  · have hlt' : ¬ (j : Int) < (n : Int) := by omega
    have : j = n := by omega
    subst this
    have hg : (H.set r ⟨el, sz, marksC k (j * 2) ++ cs.drop (j * 2), ver, o⟩)[r]? = some ⟨el, sz, marksC k (j * 2) ++ cs.drop (j * 2), ver, o⟩ := List.getElem?_set_self hr
    have hd : cs.drop (j * 2) = [] := List.drop_eq_nil_of_le (by omega)
    rw [hd, List.append_nil] at hg
    repeat' (first | (refine KV.run _ ?_) | (refine KQ.run _ ?_) | (refine KT.run _ ?_) | (refine AWp.seqH fun KC => ?_) | (refine AWp.block ?_) | (refine AWp.region ?_) | (refine mops_step0 rfl rfl fun KC => ?_) | (refine mops_step1 rfl fun KC => ?_) | (refine mops_step2 rfl fun KC => ?_) | (refine AWp.ret ?_) | (refine AWp.skip ?_) | (refine AWp.exit ?_) | (refine aops_callH rfl fun kC => ?_) | (refine qops_callH rfl fun kC => ?_) | (refine AWp.condB ?_) | (simp only [bse, wk, tys, storeH_ptr, Nat.reduceEqDiff, ↓reduceIte, reduceCtorEq, Nat.reduceAdd, Nat.reduceLeDiff, Int.reduceBEq, Int.reduceLT, Int.reduceLE, Int.reduceEq, ne_eq, not_false_eq_true, Nat.reduceMul, *]) | (refine condK_bool (fun hb => ?_) (fun hb => ?_) <;> ((try simp only [Bool.not_eq_true', Bool.not_eq_false'] at hb) <;> (try (have hbe := of_decide_eq_true hb)) <;> (try (have hbe := eq_of_beq hb)))) | (refine aops_partB ?_) | (refine qops_partB ?_))
end Go.BM
