/- Data: flat structs, their slices. -/
import Derived.Test.YticajcenbhbglaaD1
set_option linter.unusedVariables false
set_option linter.unusedSimpArgs false
set_option maxRecDepth 100000
set_option maxHeartbeats 4000000
namespace Go.BM
open Go.Proofs Go.RowKit
attribute [local irreducible] ACalls AWp aops qops optK optP cK gateA condK mops qcallK PCalls loadV fldV idxV lenV slV storeH binS

theorem laws_markVoteS (B : Nat) (H : AH) (r n ver el sz : Nat) (cs : List Value) (o : Bool) (sp : Option Nat) (k : Int) (hb : H[r]? = some ⟨el, sz, cs, ver, o⟩) (hl : cs.length = n * 6) (ho : n ≠ 0 → o = true) (hB : B ≤ r) (hk : 0 ≤ k) (hk2 : k ≤ 1000000000000000) (hn : n ≤ 1048576) :
    ACalls Try.prog B 49 [.slice (some ⟨r, 0, sp⟩) n ver, .int .i64 k] H fun d H' => d = .int .i64 (k + (n * 6 : Nat)) ∧ H' = H.set r ⟨el, sz, marksC k (n * 6), ver, o⟩ := by
  have hr := lt_of_some hb
  refine ACalls.enter (n := 57) (rs := [.tmp 4]) Try.func49 rfl rfl rfl (by kernel_rfl) (by kernel_rfl) (by kernel_rfl) (Nat.le_of_ble_eq_true rfl) ?_
  repeat' (first | (refine KV.run _ ?_) | (refine KQ.run _ ?_) | (refine KT.run _ ?_) | (refine AWp.seqH fun KC => ?_) | (refine AWp.block ?_) | (refine AWp.region ?_) | (refine mops_step0 rfl rfl fun KC => ?_) | (refine mops_step1 rfl fun KC => ?_) | (refine mops_step2 rfl fun KC => ?_) | (refine AWp.ret ?_) | (refine AWp.skip ?_) | (refine AWp.exit ?_) | (refine aops_callH rfl fun kC => ?_) | (refine qops_callH rfl fun kC => ?_) | (refine AWp.condB ?_) | (simp only [bse, wk, tys, storeH_ptr, Nat.reduceEqDiff, ↓reduceIte, reduceCtorEq, Nat.reduceAdd, Nat.reduceLeDiff, Int.reduceBEq, Int.reduceLT, Int.reduceLE, Int.reduceEq, ne_eq, not_false_eq_true, Nat.reduceMul, *]) | (refine condK_bool (fun hb => ?_) (fun hb => ?_) <;> ((try simp only [Bool.not_eq_true', Bool.not_eq_false'] at hb) <;> (try (have hbe := of_decide_eq_true hb)) <;> (try (have hbe := eq_of_beq hb)))) | (refine aops_partB ?_) | (refine qops_partB ?_))
  refine AWp.loopH [6, 7, 8, 9, 12, 13, 14, 15, 16, 17, 18, 1, 19, 20, 21, 22, 23, 24, 25, 26, 27, 28, 29, 30, 31, 32, 33, 34, 35, 36, 37, 38, 39, 40, 41, 42, 43, 44, 45, 46, 47, 48, 49, 50, 51, 52, 53, 54, 55, 10, 11, 5] (fun m e' H' => ∃ j : Nat, j ≤ n ∧ m = n - j ∧ e' 5 = .int .i64 j ∧ e' 1 = .int .i64 (k + (j * 6 : Nat)) ∧ H' = H.set r ⟨el, sz, marksC k (j * 6) ++ cs.drop (j * 6), ver, o⟩) n ⟨0, by omega, by omega, rfl, by simp [put, env0], by simp [marksC]; exact (set_same hb).symm⟩ ?_
  rintro m e' H' hA ⟨j, hj, rfl, h5, h1, rfl⟩ hJ
  have a0 := hA 0 rfl; have a4 := hA 4 rfl; try simp only [bse, wk, tys, storeH_ptr, Nat.reduceEqDiff, ↓reduceIte, reduceCtorEq, Nat.reduceAdd, Nat.reduceLeDiff, Int.reduceBEq, Int.reduceLT, Int.reduceLE, Int.reduceEq, ne_eq, not_false_eq_true, Nat.reduceMul] at a0 a4; clear hA
  by_cases hlt : j < n
  · have hlt' : (j : Int) < (n : Int) := by omega
    have hown : o = true := ho (by omega)
    subst hown
    have hg0 : (H.set r ⟨el, sz, marksC k (j * 6) ++ cs.drop (j * 6), ver, true⟩)[r]? = _ := List.getElem?_set_self hr
    have hs0 := mark_step (P := Try.prog) (B := B) (T := 2) (p := j * 6) (k := k) (cs := cs) hg0 hB lay2 (by omega)
    rw [List.set_set] at hs0
    have hw0 : IntKind.i64.wrap (k + ((j * 6 : Nat) : Int) + 1) = k + ((j * 6 + 1 : Nat) : Int) := by rw [wr] <;> omega
    have hg1 : (H.set r ⟨el, sz, marksC k (j * 6 + 1) ++ cs.drop (j * 6 + 1), ver, true⟩)[r]? = _ := List.getElem?_set_self hr
    have hs1 := mark_step (P := Try.prog) (B := B) (T := 2) (p := j * 6 + 1) (k := k) (cs := cs) hg1 hB lay2 (by omega)
    rw [List.set_set] at hs1
    have hw1 : IntKind.i64.wrap (k + ((j * 6 + 1 : Nat) : Int) + 1) = k + ((j * 6 + 1 + 1 : Nat) : Int) := by rw [wr] <;> omega
    have hg2 : (H.set r ⟨el, sz, marksC k (j * 6 + 2) ++ cs.drop (j * 6 + 2), ver, true⟩)[r]? = _ := List.getElem?_set_self hr
    have hs2 := mark_step (P := Try.prog) (B := B) (T := 2) (p := j * 6 + 2) (k := k) (cs := cs) hg2 hB lay2 (by omega)
    rw [List.set_set] at hs2
    have hw2 : IntKind.i64.wrap (k + ((j * 6 + 2 : Nat) : Int) + 1) = k + ((j * 6 + 2 + 1 : Nat) : Int) := by rw [wr] <;> omega
    have hg3 : (H.set r ⟨el, sz, marksC k (j * 6 + 3) ++ cs.drop (j * 6 + 3), ver, true⟩)[r]? = _ := List.getElem?_set_self hr
    have hs3 := mark_step (P := Try.prog) (B := B) (T := 2) (p := j * 6 + 3) (k := k) (cs := cs) hg3 hB lay2 (by omega)
    rw [List.set_set] at hs3
    have hw3 : IntKind.i64.wrap (k + ((j * 6 + 3 : Nat) : Int) + 1) = k + ((j * 6 + 3 + 1 : Nat) : Int) := by rw [wr] <;> omega
    have hg4 : (H.set r ⟨el, sz, marksC k (j * 6 + 4) ++ cs.drop (j * 6 + 4), ver, true⟩)[r]? = _ := List.getElem?_set_self hr
    have hs4 := mark_step (P := Try.prog) (B := B) (T := 2) (p := j * 6 + 4) (k := k) (cs := cs) hg4 hB lay2 (by omega)
    rw [List.set_set] at hs4
    have hw4 : IntKind.i64.wrap (k + ((j * 6 + 4 : Nat) : Int) + 1) = k + ((j * 6 + 4 + 1 : Nat) : Int) := by rw [wr] <;> omega
    have hg5 : (H.set r ⟨el, sz, marksC k (j * 6 + 5) ++ cs.drop (j * 6 + 5), ver, true⟩)[r]? = _ := List.getElem?_set_self hr
    have hs5 := mark_step (P := Try.prog) (B := B) (T := 2) (p := j * 6 + 5) (k := k) (cs := cs) hg5 hB lay2 (by omega)
    rw [List.set_set] at hs5
    have hw5 : IntKind.i64.wrap (k + ((j * 6 + 5 : Nat) : Int) + 1) = k + ((j * 6 + 5 + 1 : Nat) : Int) := by rw [wr] <;> omega
    have hw := wr_succ (k := j) (by omega)
    repeat' (first | (refine KV.run _ ?_) | (refine KQ.run _ ?_) | (refine KT.run _ ?_) | (refine AWp.seqH fun KC => ?_) | (refine AWp.block ?_) | (refine AWp.region ?_) | (refine mops_step0 rfl rfl fun KC => ?_) | (refine mops_step1 rfl fun KC => ?_) | (refine mops_step2 rfl fun KC => ?_) | (refine AWp.ret ?_) | (refine AWp.skip ?_) | (refine AWp.exit ?_) | (refine aops_callH rfl fun kC => ?_) | (refine qops_callH rfl fun kC => ?_) | (refine AWp.condB ?_) | (simp only [bse, wk, tys, Nat.reduceEqDiff, ↓reduceIte, reduceCtorEq, Nat.reduceAdd, Nat.reduceLeDiff, Int.reduceBEq, Int.reduceLT, Int.reduceLE, Int.reduceEq, ne_eq, not_false_eq_true, Nat.reduceMul, *]) | (refine condK_bool (fun hb => ?_) (fun hb => ?_) <;> ((try simp only [Bool.not_eq_true', Bool.not_eq_false'] at hb) <;> (try (have hbe := of_decide_eq_true hb)) <;> (try (have hbe := eq_of_beq hb)))) | (refine aops_partB ?_) | (refine qops_partB ?_))
    exact hJ.out _ _ ⟨n - (j + 1), by omega, j + 1, by omega, rfl, rfl, by simp only [put, if_true, if_false, reduceCtorEq, Nat.reduceEqDiff]; rw [show (j + 1) * 6 = j * 6 + 5 + 1 by omega], by rw [show (j + 1) * 6 = j * 6 + 6 by omega]⟩ (by repeat (first | exact Agree.refl _ _ | assumption | refine Agree.put ?_ rfl _))
  · have hlt' : ¬ (j : Int) < (n : Int) := by omega
    have : j = n := by omega
    subst this
    have hg : (H.set r ⟨el, sz, marksC k (j * 6) ++ cs.drop (j * 6), ver, o⟩)[r]? = some ⟨el, sz, marksC k (j * 6) ++ cs.drop (j * 6), ver, o⟩ := List.getElem?_set_self hr
    have hd : cs.drop (j * 6) = [] := List.drop_eq_nil_of_le (by omega)
    rw [hd, List.append_nil] at hg
    repeat' (first | (refine KV.run _ ?_) | (refine KQ.run _ ?_) | (refine KT.run _ ?_) | (refine AWp.seqH fun KC => ?_) | (refine AWp.block ?_) | (refine AWp.region ?_) | (refine mops_step0 rfl rfl fun KC => ?_) | (refine mops_step1 rfl fun KC => ?_) | (refine mops_step2 rfl fun KC => ?_) | (refine AWp.ret ?_) | (refine AWp.skip ?_) | (refine AWp.exit ?_) | (refine aops_callH rfl fun kC => ?_) | (refine qops_callH rfl fun kC => ?_) | (refine AWp.condB ?_) | (simp only [bse, wk, tys, storeH_ptr, Nat.reduceEqDiff, ↓reduceIte, reduceCtorEq, Nat.reduceAdd, Nat.reduceLeDiff, Int.reduceBEq, Int.reduceLT, Int.reduceLE, Int.reduceEq, ne_eq, not_false_eq_true, Nat.reduceMul, *]) | (refine condK_bool (fun hb => ?_) (fun hb => ?_) <;> ((try simp only [Bool.not_eq_true', Bool.not_eq_false'] at hb) <;> (try (have hbe := of_decide_eq_true hb)) <;> (try (have hbe := eq_of_beq hb)))) | (refine aops_partB ?_) | (refine qops_partB ?_))
theorem laws_heldVoteS (n : Nat) (k : Int) (hk : 0 ≤ k) (hk2 : k ≤ 1000000000000000) (hn : n ≤ 1048576) :
    PCalls Try.prog 55 [isl n (marksC k (n * 6)), .int .i64 k] (.int .i64 (k + (n * 6 : Nat))) := by
  have hlen := lenV_isl (P := Try.prog) (H := []) (n := n) (cs := marksC k (n * 6)) elZ29
  refine PCalls.flat rfl ?_; refine ACalls.enter (n := 69) (rs := [.tmp 4]) Try.func55 rfl rfl rfl (by kernel_rfl) (by kernel_rfl) (by kernel_rfl) (Nat.le_of_ble_eq_true rfl) ?_
  repeat' (first | (refine KV.run _ ?_) | (refine KQ.run _ ?_) | (refine KT.run _ ?_) | (refine AWp.seqH fun KC => ?_) | (refine AWp.block ?_) | (refine AWp.region ?_) | (refine mops_step0 rfl rfl fun KC => ?_) | (refine mops_step1 rfl fun KC => ?_) | (refine mops_step2 rfl fun KC => ?_) | (refine AWp.ret ?_) | (refine AWp.skip ?_) | (refine AWp.exit ?_) | (refine aops_callH rfl fun kC => ?_) | (refine qops_callH rfl fun kC => ?_) | (refine AWp.condB ?_) | (simp only [bse, wk, tys, storeH_ptr, Nat.reduceEqDiff, ↓reduceIte, reduceCtorEq, Nat.reduceAdd, Nat.reduceLeDiff, Int.reduceBEq, Int.reduceLT, Int.reduceLE, Int.reduceEq, ne_eq, not_false_eq_true, Nat.reduceMul, *]) | (refine condK_bool (fun hb => ?_) (fun hb => ?_) <;> ((try simp only [Bool.not_eq_true', Bool.not_eq_false'] at hb) <;> (try (have hbe := of_decide_eq_true hb)) <;> (try (have hbe := eq_of_beq hb)))) | (refine aops_partB ?_) | (refine qops_partB ?_))
  refine AWp.loopH [6, 7, 8, 9, 12, 13, 14, 15, 16, 17, 18, 4, 19, 20, 1, 21, 22, 23, 24, 25, 26, 27, 28, 29, 30, 31, 32, 33, 34, 35, 36, 37, 38, 39, 40, 41, 42, 43, 44, 45, 46, 47, 48, 49, 50, 51, 52, 53, 54, 55, 56, 57, 58, 59, 60, 61, 62, 63, 64, 65, 66, 67, 10, 11, 5] (fun m e' H' => ∃ j : Nat, j ≤ n ∧ m = n - j ∧ e' 5 = .int .i64 j ∧ e' 1 = .int .i64 (k + (j * 6 : Nat)) ∧ H' = []) n ⟨0, by omega, by omega, rfl, by simp [put, env0], rfl⟩ ?_
  rintro m e' H' hA ⟨j, hj, rfl, h5, h1, rfl⟩ hJ
  have a0 := hA 0 rfl; try simp only [bse, wk, tys, storeH_ptr, Nat.reduceEqDiff, ↓reduceIte, reduceCtorEq, Nat.reduceAdd, Nat.reduceLeDiff, Int.reduceBEq, Int.reduceLT, Int.reduceLE, Int.reduceEq, ne_eq, not_false_eq_true, Nat.reduceMul] at a0; clear hA
  by_cases hlt : j < n
  · have hlt' : (j : Int) < (n : Int) := by omega
    have hi := idxV_isl (P := Try.prog) (H := []) (n := n) (kd := .i64) (cs := marksC k (n * 6)) elZ29 hlt
    have hv0 : (marksC k (n * 6))[j * 6]? = some (.int .i64 (k + (j * 6 : Nat))) := marksC_get k (by omega)
    have hl0 := load_ip1 (P := Try.prog) (H := []) (T := 2) (p := j * 6) lay2 hv0
    have hw0 : IntKind.i64.wrap (k + ((j * 6 : Nat) : Int) + 1) = k + ((j * 6 + 1 : Nat) : Int) := by rw [wr] <;> omega
    have hf0_0 := fld_ip (P := Try.prog) (H := []) (p := j * 6) (cs := marksC k (n * 6)) fld99_0
    have hv1 : (marksC k (n * 6))[j * 6 + 1]? = some (.int .i64 (k + (j * 6 + 1 : Nat))) := marksC_get k (by omega)
    have hl1 := load_ip1 (P := Try.prog) (H := []) (T := 2) (p := j * 6 + 1) lay2 hv1
    have hw1 : IntKind.i64.wrap (k + ((j * 6 + 1 : Nat) : Int) + 1) = k + ((j * 6 + 1 + 1 : Nat) : Int) := by rw [wr] <;> omega
    have hf1_0 := fld_ip (P := Try.prog) (H := []) (p := j * 6) (cs := marksC k (n * 6)) fld99_1
    have hv2 : (marksC k (n * 6))[j * 6 + 2]? = some (.int .i64 (k + (j * 6 + 2 : Nat))) := marksC_get k (by omega)
    have hl2 := load_ip1 (P := Try.prog) (H := []) (T := 2) (p := j * 6 + 2) lay2 hv2
    have hw2 : IntKind.i64.wrap (k + ((j * 6 + 2 : Nat) : Int) + 1) = k + ((j * 6 + 2 + 1 : Nat) : Int) := by rw [wr] <;> omega
    have hf2_0 := fld_ip (P := Try.prog) (H := []) (p := j * 6) (cs := marksC k (n * 6)) fld99_2
    have hv3 : (marksC k (n * 6))[j * 6 + 3]? = some (.int .i64 (k + (j * 6 + 3 : Nat))) := marksC_get k (by omega)
    have hl3 := load_ip1 (P := Try.prog) (H := []) (T := 2) (p := j * 6 + 3) lay2 hv3
    have hw3 : IntKind.i64.wrap (k + ((j * 6 + 3 : Nat) : Int) + 1) = k + ((j * 6 + 3 + 1 : Nat) : Int) := by rw [wr] <;> omega
    have hf3_0 := fld_ip (P := Try.prog) (H := []) (p := j * 6) (cs := marksC k (n * 6)) fld99_3
    have hf3_1 := fld_ip (P := Try.prog) (H := []) (p := j * 6 + 3) (cs := marksC k (n * 6)) fld97_0
    have hv4 : (marksC k (n * 6))[j * 6 + 4]? = some (.int .i64 (k + (j * 6 + 4 : Nat))) := marksC_get k (by omega)
    have hl4 := load_ip1 (P := Try.prog) (H := []) (T := 2) (p := j * 6 + 4) lay2 hv4
    have hw4 : IntKind.i64.wrap (k + ((j * 6 + 4 : Nat) : Int) + 1) = k + ((j * 6 + 4 + 1 : Nat) : Int) := by rw [wr] <;> omega
    have hf4_0 := fld_ip (P := Try.prog) (H := []) (p := j * 6) (cs := marksC k (n * 6)) fld99_3
    have hf4_1 := fld_ip (P := Try.prog) (H := []) (p := j * 6 + 3) (cs := marksC k (n * 6)) fld97_1
    have hv5 : (marksC k (n * 6))[j * 6 + 5]? = some (.int .i64 (k + (j * 6 + 5 : Nat))) := marksC_get k (by omega)
    have hl5 := load_ip1 (P := Try.prog) (H := []) (T := 2) (p := j * 6 + 5) lay2 hv5
    have hw5 : IntKind.i64.wrap (k + ((j * 6 + 5 : Nat) : Int) + 1) = k + ((j * 6 + 5 + 1 : Nat) : Int) := by rw [wr] <;> omega
    have hf5_0 := fld_ip (P := Try.prog) (H := []) (p := j * 6) (cs := marksC k (n * 6)) fld99_4
    have hw := wr_succ (k := j) (by omega)
    repeat' (first | (refine KV.run _ ?_) | (refine KQ.run _ ?_) | (refine KT.run _ ?_) | (refine AWp.seqH fun KC => ?_) | (refine AWp.block ?_) | (refine AWp.region ?_) | (refine mops_step0 rfl rfl fun KC => ?_) | (refine mops_step1 rfl fun KC => ?_) | (refine mops_step2 rfl fun KC => ?_) | (refine AWp.ret ?_) | (refine AWp.skip ?_) | (refine AWp.exit ?_) | (refine aops_callH rfl fun kC => ?_) | (refine qops_callH rfl fun kC => ?_) | (refine AWp.condB ?_) | (simp only [bse, wk, tys, storeH_ptr, Nat.reduceEqDiff, ↓reduceIte, reduceCtorEq, Nat.reduceAdd, Nat.reduceLeDiff, Int.reduceBEq, Int.reduceLT, Int.reduceLE, Int.reduceEq, ne_eq, not_false_eq_true, Nat.reduceMul, *]) | (refine condK_bool (fun hb => ?_) (fun hb => ?_) <;> ((try simp only [Bool.not_eq_true', Bool.not_eq_false'] at hb) <;> (try (have hbe := of_decide_eq_true hb)) <;> (try (have hbe := eq_of_beq hb)))) | (refine aops_partB ?_) | (refine qops_partB ?_))
    exact hJ.out _ _ ⟨n - (j + 1), by omega, j + 1, by omega, rfl, rfl, by simp only [put, if_true, if_false, reduceCtorEq, Nat.reduceEqDiff]; rw [show (j + 1) * 6 = j * 6 + 5 + 1 by omega], rfl⟩ (by repeat (first | exact Agree.refl _ _ | assumption | refine Agree.put ?_ rfl _))
  · have hlt' : ¬ (j : Int) < (n : Int) := by omega
    have : j = n := by omega
    subst this
    repeat' (first | (refine KV.run _ ?_) | (refine KQ.run _ ?_) | (refine KT.run _ ?_) | (refine AWp.seqH fun KC => ?_) | (refine AWp.block ?_) | (refine AWp.region ?_) | (refine mops_step0 rfl rfl fun KC => ?_) | (refine mops_step1 rfl fun KC => ?_) | (refine mops_step2 rfl fun KC => ?_) | (refine AWp.ret ?_) | (refine AWp.skip ?_) | (refine AWp.exit ?_) | (refine aops_callH rfl fun kC => ?_) | (refine qops_callH rfl fun kC => ?_) | (refine AWp.condB ?_) | (simp only [bse, wk, tys, storeH_ptr, Nat.reduceEqDiff, ↓reduceIte, reduceCtorEq, Nat.reduceAdd, Nat.reduceLeDiff, Int.reduceBEq, Int.reduceLT, Int.reduceLE, Int.reduceEq, ne_eq, not_false_eq_true, Nat.reduceMul, *]) | (refine condK_bool (fun hb => ?_) (fun hb => ?_) <;> ((try simp only [Bool.not_eq_true', Bool.not_eq_false'] at hb) <;> (try (have hbe := of_decide_eq_true hb)) <;> (try (have hbe := eq_of_beq hb)))) | (refine aops_partB ?_) | (refine qops_partB ?_))

end Go.BM
