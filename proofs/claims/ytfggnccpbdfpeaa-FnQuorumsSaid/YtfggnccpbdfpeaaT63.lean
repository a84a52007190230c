/- ChooseQuorum: the reference's side. -/
import Derived.Test.YtfggnccpbdfpeaaT62
import Derived.Test.YtfggnccpbdfpeaaT8B
import Derived.Test.YtfggnccpbdfpeaaC37
import Derived.Test.YtfggnccpbdfpeaaT30
set_option linter.unusedVariables false
set_option linter.unusedSimpArgs false
set_option maxRecDepth 100000
set_option maxHeartbeats 4000000
namespace Go.BM
open Go.Proofs Go.RowKit
attribute [local irreducible] ACalls AWp aops qops optK optP cK gateA condK mops qcallK PCalls loadV fldV idxV lenV slV storeH binS
theorem spec_l10Seed (seed : Int) : PCalls Try.prog 128 [.int .i64 seed] (.bool (inB seed 0 65535)) := by
  refine PCalls.flat rfl ?_; refine ACalls.enter (n := 5) (rs := [.tmp 2]) Try.func128 rfl rfl rfl (by kernel_rfl) (by kernel_rfl) (by kernel_rfl) (Nat.le_of_ble_eq_true rfl) ?_
  repeat' (first | (refine ACalls.start ?_; first | (refine ACalls.ofJi (spec_l1In _ _ _) rfl ?_)) | (refine qcall_start ?_; first | (refine qcallFi (spec_l1In _ _ _) rfl ?_ ?_; (focus ((first | exact rfl | (simp [pureV, flatV, quorumE_val, quorumE_sz, quorumResultE_val, quorumResultE_sz, Int.reduceToNat, Int.cast_ofNat_Int]; done)))))) | (refine KV.run _ ?_) | (refine KQ.run _ ?_) | (refine KT.run _ ?_) | (refine AWp.seqH fun KC => ?_) | (refine AWp.block ?_) | (refine AWp.region ?_) | (refine mops_step0 rfl rfl fun KC => ?_) | (refine mops_step1 rfl fun KC => ?_) | (refine mops_step2 rfl fun KC => ?_) | (refine AWp.ret ?_) | (refine AWp.skip ?_) | (refine AWp.exit ?_) | (refine aops_callH rfl fun kC => ?_) | (refine qops_callH rfl fun kC => ?_) | (refine AWp.condB ?_) | (simp only [bse, wk, tys, storeH_ptr, Nat.reduceEqDiff, ↓reduceIte, reduceCtorEq, Nat.reduceAdd, Nat.reduceLeDiff, Int.reduceBEq, Int.reduceLT, Int.reduceLE, Int.reduceEq, ne_eq, not_false_eq_true, Nat.reduceMul, quorumE_val, quorumE_sz, quorumResultE_val, quorumResultE_sz, Int.reduceToNat, Int.cast_ofNat_Int, *]) | (refine condK_bool (fun hb => ?_) (fun hb => ?_) <;> ((try simp only [Bool.not_eq_true', Bool.not_eq_false'] at hb) <;> (try (have hbe := of_decide_eq_true hb)) <;> (try (have hbe := eq_of_beq hb)))) | (refine aops_partB ?_) | (refine qops_partB ?_))
theorem spec_RankOf (key seed : Int) : PCalls Try.prog 221 [.int .i64 key, .int .i64 seed] (.int .i64 (rankF key seed)) := by
  cases h1 : inB key 1 999 with
  | false =>
    have e : rankF key seed = -1 := by unfold rankF; rw [h1]; rfl
    rw [e]
    refine PCalls.flat rfl ?_; refine ACalls.enter (n := 24) (rs := [.tmp 4]) Try.func221 rfl rfl rfl (by kernel_rfl) (by kernel_rfl) (by kernel_rfl) (Nat.le_of_ble_eq_true rfl) ?_
    repeat' (first | (refine ACalls.start ?_; first | (refine ACalls.ofJi (spec_l1Key _) rfl ?_)) | (refine qcall_start ?_; first | (refine qcallFi (spec_l1Key _) rfl ?_ ?_; (focus ((first | exact rfl | (simp [pureV, flatV, quorumE_val, quorumE_sz, quorumResultE_val, quorumResultE_sz, Int.reduceToNat, Int.cast_ofNat_Int]; done)))))) | (refine KV.run _ ?_) | (refine KQ.run _ ?_) | (refine KT.run _ ?_) | (refine AWp.seqH fun KC => ?_) | (refine AWp.block ?_) | (refine AWp.region ?_) | (refine mops_step0 rfl rfl fun KC => ?_) | (refine mops_step1 rfl fun KC => ?_) | (refine mops_step2 rfl fun KC => ?_) | (refine AWp.ret ?_) | (refine AWp.skip ?_) | (refine AWp.exit ?_) | (refine aops_callH rfl fun kC => ?_) | (refine qops_callH rfl fun kC => ?_) | (refine AWp.condB ?_) | (simp only [bse, wk, tys, storeH_ptr, Nat.reduceEqDiff, ↓reduceIte, reduceCtorEq, Nat.reduceAdd, Nat.reduceLeDiff, Int.reduceBEq, Int.reduceLT, Int.reduceLE, Int.reduceEq, ne_eq, not_false_eq_true, Nat.reduceMul, quorumE_val, quorumE_sz, quorumResultE_val, quorumResultE_sz, Int.reduceToNat, Int.cast_ofNat_Int, *]) | (refine condK_bool (fun hb => ?_) (fun hb => ?_) <;> ((try simp only [Bool.not_eq_true', Bool.not_eq_false'] at hb) <;> (try (have hbe := of_decide_eq_true hb)) <;> (try (have hbe := eq_of_beq hb)))) | (refine aops_partB ?_) | (refine qops_partB ?_))
  | true =>
    cases h2 : inB seed 0 65535 with
    | false =>
      have e : rankF key seed = -1 := by unfold rankF; rw [h1, h2]; rfl
      rw [e]
      refine PCalls.flat rfl ?_; refine ACalls.enter (n := 24) (rs := [.tmp 4]) Try.func221 rfl rfl rfl (by kernel_rfl) (by kernel_rfl) (by kernel_rfl) (Nat.le_of_ble_eq_true rfl) ?_
      repeat' (first | (refine ACalls.start ?_; first | (refine ACalls.ofJi (spec_l1Key _) rfl ?_) | (refine ACalls.ofJi (spec_l10Seed _) rfl ?_)) | (refine qcall_start ?_; first | (refine qcallFi (spec_l1Key _) rfl ?_ ?_; (focus ((first | exact rfl | (simp [pureV, flatV, quorumE_val, quorumE_sz, quorumResultE_val, quorumResultE_sz, Int.reduceToNat, Int.cast_ofNat_Int]; done))))) | (refine qcallFi (spec_l10Seed _) rfl ?_ ?_; (focus ((first | exact rfl | (simp [pureV, flatV, quorumE_val, quorumE_sz, quorumResultE_val, quorumResultE_sz, Int.reduceToNat, Int.cast_ofNat_Int]; done)))))) | (refine KV.run _ ?_) | (refine KQ.run _ ?_) | (refine KT.run _ ?_) | (refine AWp.seqH fun KC => ?_) | (refine AWp.block ?_) | (refine AWp.region ?_) | (refine mops_step0 rfl rfl fun KC => ?_) | (refine mops_step1 rfl fun KC => ?_) | (refine mops_step2 rfl fun KC => ?_) | (refine AWp.ret ?_) | (refine AWp.skip ?_) | (refine AWp.exit ?_) | (refine aops_callH rfl fun kC => ?_) | (refine qops_callH rfl fun kC => ?_) | (refine AWp.condB ?_) | (simp only [bse, wk, tys, storeH_ptr, Nat.reduceEqDiff, ↓reduceIte, reduceCtorEq, Nat.reduceAdd, Nat.reduceLeDiff, Int.reduceBEq, Int.reduceLT, Int.reduceLE, Int.reduceEq, ne_eq, not_false_eq_true, Nat.reduceMul, quorumE_val, quorumE_sz, quorumResultE_val, quorumResultE_sz, Int.reduceToNat, Int.cast_ofNat_Int, *]) | (refine condK_bool (fun hb => ?_) (fun hb => ?_) <;> ((try simp only [Bool.not_eq_true', Bool.not_eq_false'] at hb) <;> (try (have hbe := of_decide_eq_true hb)) <;> (try (have hbe := eq_of_beq hb)))) | (refine aops_partB ?_) | (refine qops_partB ?_))
    | true =>
      obtain ⟨b1, b2, b3, b4, b5, b6⟩ := rank_bounds h1 h2
      have e : rankF key seed = (key * 40503 + seed * 30011 + key * seed + 7).tmod 65521 := by
        unfold rankF
        rw [h1, h2, Int.tmod_eq_emod_of_nonneg (by omega)]
        rfl
      rw [e]
      have w1 : IntKind.i64.wrap (key * 40503) = key * 40503 := by rw [wr] <;> omega
      have w2 : IntKind.i64.wrap (seed * 30011) = seed * 30011 := by rw [wr] <;> omega
      have w3 : IntKind.i64.wrap (key * 40503 + seed * 30011) = key * 40503 + seed * 30011 := by rw [wr] <;> omega
      have w4 : IntKind.i64.wrap (key * seed) = key * seed := by rw [wr] <;> omega
      have w5 : IntKind.i64.wrap (key * 40503 + seed * 30011 + key * seed) = key * 40503 + seed * 30011 + key * seed := by rw [wr] <;> omega
      have w6 : IntKind.i64.wrap (key * 40503 + seed * 30011 + key * seed + 7) = key * 40503 + seed * 30011 + key * seed + 7 := by rw [wr] <;> omega
      refine PCalls.flat rfl ?_; refine ACalls.enter (n := 24) (rs := [.tmp 4]) Try.func221 rfl rfl rfl (by kernel_rfl) (by kernel_rfl) (by kernel_rfl) (Nat.le_of_ble_eq_true rfl) ?_
      repeat' (first | (refine ACalls.start ?_; first | (refine ACalls.ofJi (spec_l1Key _) rfl ?_) | (refine ACalls.ofJi (spec_l10Seed _) rfl ?_)) | (refine qcall_start ?_; first | (refine qcallFi (spec_l1Key _) rfl ?_ ?_; (focus ((first | exact rfl | (simp [pureV, flatV, quorumE_val, quorumE_sz, quorumResultE_val, quorumResultE_sz, Int.reduceToNat, Int.cast_ofNat_Int]; done))))) | (refine qcallFi (spec_l10Seed _) rfl ?_ ?_; (focus ((first | exact rfl | (simp [pureV, flatV, quorumE_val, quorumE_sz, quorumResultE_val, quorumResultE_sz, Int.reduceToNat, Int.cast_ofNat_Int]; done)))))) | (refine KV.run _ ?_) | (refine KQ.run _ ?_) | (refine KT.run _ ?_) | (refine AWp.seqH fun KC => ?_) | (refine AWp.block ?_) | (refine AWp.region ?_) | (refine mops_step0 rfl rfl fun KC => ?_) | (refine mops_step1 rfl fun KC => ?_) | (refine mops_step2 rfl fun KC => ?_) | (refine AWp.ret ?_) | (refine AWp.skip ?_) | (refine AWp.exit ?_) | (refine aops_callH rfl fun kC => ?_) | (refine qops_callH rfl fun kC => ?_) | (refine AWp.condB ?_) | (simp only [bse, wk, tys, storeH_ptr, Nat.reduceEqDiff, ↓reduceIte, reduceCtorEq, Nat.reduceAdd, Nat.reduceLeDiff, Int.reduceBEq, Int.reduceLT, Int.reduceLE, Int.reduceEq, ne_eq, not_false_eq_true, Nat.reduceMul, quorumE_val, quorumE_sz, quorumResultE_val, quorumResultE_sz, Int.reduceToNat, Int.cast_ofNat_Int, *]) | (refine condK_bool (fun hb => ?_) (fun hb => ?_) <;> ((try simp only [Bool.not_eq_true', Bool.not_eq_false'] at hb) <;> (try (have hbe := of_decide_eq_true hb)) <;> (try (have hbe := eq_of_beq hb)))) | (refine aops_partB ?_) | (refine qops_partB ?_))
theorem spec_l10Ahead (a b seed : Int) : PCalls Try.prog 190 [.int .i64 a, .int .i64 b, .int .i64 seed] (.bool (aheadB seed a b)) := by
  have h1 := spec_RankOf a seed
  have h2 := spec_RankOf b seed
  unfold aheadB
  generalize rankF a seed = x at h1 ⊢
  generalize rankF b seed = y at h2 ⊢
  refine PCalls.flat rfl ?_; refine ACalls.enter (n := 28) (rs := [.tmp 6]) Try.func190 rfl rfl rfl (by kernel_rfl) (by kernel_rfl) (by kernel_rfl) (Nat.le_of_ble_eq_true rfl) ?_
  repeat' (first | (refine ACalls.start ?_; first | (refine ACalls.ofJi (h1) rfl ?_) | (refine ACalls.ofJi (h2) rfl ?_)) | (refine qcall_start ?_; first | (refine qcallFi (h1) rfl ?_ ?_; (focus ((first | exact rfl | (simp [pureV, flatV, quorumE_val, quorumE_sz, quorumResultE_val, quorumResultE_sz, Int.reduceToNat, Int.cast_ofNat_Int]; done))))) | (refine qcallFi (h2) rfl ?_ ?_; (focus ((first | exact rfl | (simp [pureV, flatV, quorumE_val, quorumE_sz, quorumResultE_val, quorumResultE_sz, Int.reduceToNat, Int.cast_ofNat_Int]; done)))))) | (refine KV.run _ ?_) | (refine KQ.run _ ?_) | (refine KT.run _ ?_) | (refine AWp.seqH fun KC => ?_) | (refine AWp.block ?_) | (refine AWp.region ?_) | (refine mops_step0 rfl rfl fun KC => ?_) | (refine mops_step1 rfl fun KC => ?_) | (refine mops_step2 rfl fun KC => ?_) | (refine AWp.ret ?_) | (refine AWp.skip ?_) | (refine AWp.exit ?_) | (refine aops_callH rfl fun kC => ?_) | (refine qops_callH rfl fun kC => ?_) | (refine AWp.condB ?_) | (simp only [bse, wk, tys, storeH_ptr, Nat.reduceEqDiff, ↓reduceIte, reduceCtorEq, Nat.reduceAdd, Nat.reduceLeDiff, Int.reduceBEq, Int.reduceLT, Int.reduceLE, Int.reduceEq, ne_eq, not_false_eq_true, Nat.reduceMul, quorumE_val, quorumE_sz, quorumResultE_val, quorumResultE_sz, Int.reduceToNat, Int.cast_ofNat_Int, *]) | (refine condK_bool (fun hb => ?_) (fun hb => ?_) <;> ((try simp only [Bool.not_eq_true', Bool.not_eq_false'] at hb) <;> (try (have hbe := of_decide_eq_true hb)) <;> (try (have hbe := eq_of_beq hb)))) | (refine aops_partB ?_) | (refine qops_partB ?_))
  all_goals (first | rfl | simp [*])
theorem cntA_step (seed : Int) (keys : List Int) (x : Int) (j : Nat) (hj : j < keys.length) : cntA seed (keys.take (j + 1)) x = if aheadB seed keys[j] x then cntA seed (keys.take j) x + 1 else cntA seed (keys.take j) x := by
  unfold cntA
  rw [filter_step _ keys j hj]
  split <;> simp
theorem cntA_le (seed : Int) (keys : List Int) (x : Int) : cntA seed keys x ≤ keys.length := List.length_filter_le _ _
theorem chooseL_step (keys : List Int) (seed n : Int) (k : Nat) (hk : k < keys.length) : foldN (chooseStep seed n keys) [] (keys.take (k + 1)) = chooseStep seed n keys (foldN (chooseStep seed n keys) [] (keys.take k)) keys[k] := foldN_step _ _ keys k hk
theorem spec_l10Choose (keys : List Int) (seed n : Int) (hn : keys.length ≤ 1000) : PCalls Try.prog 131 [islE intE keys, .int .i64 seed, .int .i64 n] (islE intE (chooseL keys seed n)) := by
  refine PCalls.of ?_
  refine ACalls.enter (n := 73) (rs := [.tmp 6]) Try.func131 rfl rfl rfl (by kernel_rfl) (by kernel_rfl) (by kernel_rfl) (Nat.le_of_ble_eq_true rfl) ?_
  repeat' (first | (refine AWp.quiet (id := 9) (by kernel_rfl) (by kernel_rfl) ?_) | (refine AWp.quiet (id := 13) (by kernel_rfl) (by kernel_rfl) ?_) | (refine KV.run _ ?_) | (refine KQ.run _ ?_) | (refine KT.run _ ?_) | (refine AWp.seqH fun KC => ?_) | (refine AWp.block ?_) | (refine AWp.region ?_) | (refine mops_step0 rfl rfl fun KC => ?_) | (refine mops_step1 rfl fun KC => ?_) | (refine mops_step2 rfl fun KC => ?_) | (refine AWp.ret ?_) | (refine AWp.skip ?_) | (refine AWp.exit ?_) | (refine aops_callH rfl fun kC => ?_) | (refine qops_callH rfl fun kC => ?_) | (refine AWp.condB ?_) | (simp only [bse, wk, tys, storeH_ptr, Nat.reduceEqDiff, ↓reduceIte, reduceCtorEq, Nat.reduceAdd, Nat.reduceLeDiff, Int.reduceBEq, Int.reduceLT, Int.reduceLE, Int.reduceEq, ne_eq, not_false_eq_true, Nat.reduceMul, quorumE_val, quorumE_sz, quorumResultE_val, quorumResultE_sz, Int.reduceToNat, Int.cast_ofNat_Int, *]) | (refine condK_bool (fun hb => ?_) (fun hb => ?_) <;> ((try simp only [Bool.not_eq_true', Bool.not_eq_false'] at hb) <;> (try (have hbe := of_decide_eq_true hb)) <;> (try (have hbe := eq_of_beq hb)))) | (refine aops_partB ?_) | (refine qops_partB ?_))
  refine AWp.loopH [13, 14, 15, 16, 9, 10, 19, 20, 21, 22, 25, 26, 27, 28, 29, 30, 31, 32, 33, 34, 35, 36, 23, 24, 37, 38, 39, 11, 40, 41, 42, 43, 44, 45, 46, 47, 48, 49, 50, 51, 52, 53, 54, 55, 56, 57, 58, 59, 60, 61, 62, 63, 64, 65, 66, 67, 68, 69, 70, 71, 7, 17, 18, 8] (fun m e' H' => ∃ (k q ver : Nat) (out : List Int), k ≤ keys.length ∧ m = keys.length - k ∧ e' 8 = .int .i64 k ∧ e' 7 = .slice (some ⟨q, 0, none⟩) out.length ver ∧ H'[q]? = some ⟨2, 1, intE.flat out, ver, true⟩ ∧ out.length ≤ k ∧ Hid (out = foldN (chooseStep seed n keys) [] (keys.take k))) keys.length ⟨0, 0, 0, [], by omega, by omega, rfl, rfl, rfl, by simp, rfl⟩ ?_
  rintro m e' G hA ⟨k, q, ver, out, hk, rfl, e8, e7, hq, hol, hF⟩ hK
  have a0 := hA 0 rfl; have a1 := hA 1 rfl; have a2 := hA 2 rfl; have a6 := hA 6 rfl; try simp only [bse, wk, tys, storeH_ptr, Nat.reduceEqDiff, ↓reduceIte, reduceCtorEq, Nat.reduceAdd, Nat.reduceLeDiff, Int.reduceBEq, Int.reduceLT, Int.reduceLE, Int.reduceEq, ne_eq, not_false_eq_true, Nat.reduceMul] at a0 a1 a2 a6; clear hA
  by_cases hlt : k < keys.length
  · have hlt' : (k : Int) < (keys.length : Int) := by omega
    have hw := wr_succ (k := k) (by omega)
    have hs := chooseL_step keys seed n k hlt
    rw [← hF.out] at hs
    have hsH : Hid (foldN (chooseStep seed n keys) [] (keys.take (k + 1)) = chooseStep seed n keys out keys[k]) := hs
    clear hs hF
    repeat' (first | (refine AWp.quiet (id := 9) (by kernel_rfl) (by kernel_rfl) ?_) | (refine AWp.quiet (id := 13) (by kernel_rfl) (by kernel_rfl) ?_) | (refine KV.run _ ?_) | (refine KQ.run _ ?_) | (refine KT.run _ ?_) | (refine AWp.seqH fun KC => ?_) | (refine AWp.block ?_) | (refine AWp.region ?_) | (refine mops_step0 rfl rfl fun KC => ?_) | (refine mops_step1 rfl fun KC => ?_) | (refine mops_step2 rfl fun KC => ?_) | (refine AWp.ret ?_) | (refine AWp.skip ?_) | (refine AWp.exit ?_) | (refine aops_callH rfl fun kC => ?_) | (refine qops_callH rfl fun kC => ?_) | (refine AWp.condB ?_) | (simp only [bse, wk, tys, storeH_ptr, Nat.reduceEqDiff, ↓reduceIte, reduceCtorEq, Nat.reduceAdd, Nat.reduceLeDiff, Int.reduceBEq, Int.reduceLT, Int.reduceLE, Int.reduceEq, ne_eq, not_false_eq_true, Nat.reduceMul, quorumE_val, quorumE_sz, quorumResultE_val, quorumResultE_sz, Int.reduceToNat, Int.cast_ofNat_Int, *]) | (refine condK_bool (fun hb => ?_) (fun hb => ?_) <;> ((try simp only [Bool.not_eq_true', Bool.not_eq_false'] at hb) <;> (try (have hbe := of_decide_eq_true hb)) <;> (try (have hbe := eq_of_beq hb)))) | (refine aops_partB ?_) | (refine qops_partB ?_))
    refine AWp.loopH [19, 20, 21, 22, 25, 26, 27, 28, 29, 30, 31, 32, 33, 34, 35, 36, 9, 23, 24, 10] (fun m e' H' => ∃ (j c : Nat), j ≤ keys.length ∧ m = keys.length - j ∧ e' 10 = .int .i64 j ∧ e' 9 = .int .i64 c ∧ H' = G ∧ c ≤ j ∧ Hid (c = cntA seed (keys.take j) keys[k])) keys.length ⟨0, 0, by omega, by omega, rfl, rfl, rfl, by omega, rfl⟩ ?_
    rintro m e' H' hA ⟨j, c, hj, rfl, e10, e9, hG, hcj, hC⟩ hJ
    subst hG
    have hA2 := hA
    have a0 := hA 0 rfl; have a1 := hA 1 rfl; have a2 := hA 2 rfl; have a6 := hA 6 rfl; have a7 := hA 7 rfl; have a8 := hA 8 rfl; try simp only [bse, wk, tys, storeH_ptr, Nat.reduceEqDiff, ↓reduceIte, reduceCtorEq, Nat.reduceAdd, Nat.reduceLeDiff, Int.reduceBEq, Int.reduceLT, Int.reduceLE, Int.reduceEq, ne_eq, not_false_eq_true, Nat.reduceMul] at a0 a1 a2 a6 a7 a8; clear hA
    by_cases hlj : j < keys.length
    · have hlj' : (j : Int) < (keys.length : Int) := by omega
      have hwj := wr_succ (k := j) (by omega)
      have hwc := wr_succ (k := c) (by omega)
      have hcs := cntA_step seed keys keys[k] j hlj
      rw [← hC.out] at hcs
      have hpa := spec_l10Ahead keys[j] keys[k] seed
      cases ha : aheadB seed keys[j] keys[k] with
      | true =>
        have h1 : Hid (c + 1 = cntA seed (keys.take (j + 1)) keys[k]) := by rw [ha] at hcs; exact hcs.symm
        rw [ha] at hpa
        clear hcs hC
        repeat' (first | (refine AWp.quiet (id := 9) (by kernel_rfl) (by kernel_rfl) ?_) | (refine AWp.quiet (id := 13) (by kernel_rfl) (by kernel_rfl) ?_) | (refine ACalls.start ?_; first | (refine ACalls.ofJi (hpa) rfl ?_)) | (refine qcall_start ?_; first | (refine qcallFi (hpa) rfl ?_ ?_; (focus ((first | exact rfl | (simp [pureV, flatV, quorumE_val, quorumE_sz, quorumResultE_val, quorumResultE_sz, Int.reduceToNat, Int.cast_ofNat_Int]; done)))))) | (refine KV.run _ ?_) | (refine KQ.run _ ?_) | (refine KT.run _ ?_) | (refine AWp.seqH fun KC => ?_) | (refine AWp.block ?_) | (refine AWp.region ?_) | (refine mops_step0 rfl rfl fun KC => ?_) | (refine mops_step1 rfl fun KC => ?_) | (refine mops_step2 rfl fun KC => ?_) | (refine AWp.ret ?_) | (refine AWp.skip ?_) | (refine AWp.exit ?_) | (refine aops_callH rfl fun kC => ?_) | (refine qops_callH rfl fun kC => ?_) | (refine AWp.condB ?_) | (simp only [bse, wk, tys, storeH_ptr, Nat.reduceEqDiff, ↓reduceIte, reduceCtorEq, Nat.reduceAdd, Nat.reduceLeDiff, Int.reduceBEq, Int.reduceLT, Int.reduceLE, Int.reduceEq, ne_eq, not_false_eq_true, Nat.reduceMul, quorumE_val, quorumE_sz, quorumResultE_val, quorumResultE_sz, Int.reduceToNat, Int.cast_ofNat_Int, *]) | (refine condK_bool (fun hb => ?_) (fun hb => ?_) <;> ((try simp only [Bool.not_eq_true', Bool.not_eq_false'] at hb) <;> (try (have hbe := of_decide_eq_true hb)) <;> (try (have hbe := eq_of_beq hb)))) | (refine aops_partB ?_) | (refine qops_partB ?_))
        exact hJ.out _ _ ⟨keys.length - (j + 1), by omega, j + 1, c + 1, by omega, rfl, rfl, by simp [put], rfl, by omega, h1⟩ (by repeat (first | exact Agree.refl _ _ | assumption | refine Agree.put ?_ rfl _))
      | false =>
        have h1 : Hid (c = cntA seed (keys.take (j + 1)) keys[k]) := by rw [ha] at hcs; exact hcs.symm
        rw [ha] at hpa
        clear hcs hC
        repeat' (first | (refine AWp.quiet (id := 9) (by kernel_rfl) (by kernel_rfl) ?_) | (refine AWp.quiet (id := 13) (by kernel_rfl) (by kernel_rfl) ?_) | (refine ACalls.start ?_; first | (refine ACalls.ofJi (hpa) rfl ?_)) | (refine qcall_start ?_; first | (refine qcallFi (hpa) rfl ?_ ?_; (focus ((first | exact rfl | (simp [pureV, flatV, quorumE_val, quorumE_sz, quorumResultE_val, quorumResultE_sz, Int.reduceToNat, Int.cast_ofNat_Int]; done)))))) | (refine KV.run _ ?_) | (refine KQ.run _ ?_) | (refine KT.run _ ?_) | (refine AWp.seqH fun KC => ?_) | (refine AWp.block ?_) | (refine AWp.region ?_) | (refine mops_step0 rfl rfl fun KC => ?_) | (refine mops_step1 rfl fun KC => ?_) | (refine mops_step2 rfl fun KC => ?_) | (refine AWp.ret ?_) | (refine AWp.skip ?_) | (refine AWp.exit ?_) | (refine aops_callH rfl fun kC => ?_) | (refine qops_callH rfl fun kC => ?_) | (refine AWp.condB ?_) | (simp only [bse, wk, tys, storeH_ptr, Nat.reduceEqDiff, ↓reduceIte, reduceCtorEq, Nat.reduceAdd, Nat.reduceLeDiff, Int.reduceBEq, Int.reduceLT, Int.reduceLE, Int.reduceEq, ne_eq, not_false_eq_true, Nat.reduceMul, quorumE_val, quorumE_sz, quorumResultE_val, quorumResultE_sz, Int.reduceToNat, Int.cast_ofNat_Int, *]) | (refine condK_bool (fun hb => ?_) (fun hb => ?_) <;> ((try simp only [Bool.not_eq_true', Bool.not_eq_false'] at hb) <;> (try (have hbe := of_decide_eq_true hb)) <;> (try (have hbe := eq_of_beq hb)))) | (refine aops_partB ?_) | (refine qops_partB ?_))
        exact hJ.out _ _ ⟨keys.length - (j + 1), by omega, j + 1, c, by omega, rfl, rfl, by simp [put, e9], rfl, by omega, h1⟩ (by repeat (first | exact Agree.refl _ _ | assumption | refine Agree.put ?_ rfl _))
    · have hlj' : ¬ (j : Int) < (keys.length : Int) := by omega
      have hje : j = keys.length := by omega
      have hcnt : Hid (c = cntA seed keys keys[k]) := by have := hC.out; rw [hje, List.take_length] at this; exact this
      clear hC
      by_cases hge : n ≤ (c : Int)
      · have h1 : Hid (out = foldN (chooseStep seed n keys) [] (keys.take (k + 1))) := by
          unfold Hid
          rw [hsH.out]
          unfold chooseStep
          rw [← hcnt.out, if_pos hge]
        clear hje hcnt hsH
        repeat' (first | (refine AWp.quiet (id := 9) (by kernel_rfl) (by kernel_rfl) ?_) | (refine AWp.quiet (id := 13) (by kernel_rfl) (by kernel_rfl) ?_) | (refine KV.run _ ?_) | (refine KQ.run _ ?_) | (refine KT.run _ ?_) | (refine AWp.seqH fun KC => ?_) | (refine AWp.block ?_) | (refine AWp.region ?_) | (refine mops_step0 rfl rfl fun KC => ?_) | (refine mops_step1 rfl fun KC => ?_) | (refine mops_step2 rfl fun KC => ?_) | (refine AWp.ret ?_) | (refine AWp.skip ?_) | (refine AWp.exit ?_) | (refine aops_callH rfl fun kC => ?_) | (refine qops_callH rfl fun kC => ?_) | (refine AWp.condB ?_) | (simp only [bse, wk, tys, storeH_ptr, Nat.reduceEqDiff, ↓reduceIte, reduceCtorEq, Nat.reduceAdd, Nat.reduceLeDiff, Int.reduceBEq, Int.reduceLT, Int.reduceLE, Int.reduceEq, ne_eq, not_false_eq_true, Nat.reduceMul, quorumE_val, quorumE_sz, quorumResultE_val, quorumResultE_sz, Int.reduceToNat, Int.cast_ofNat_Int, *]) | (refine condK_bool (fun hb => ?_) (fun hb => ?_) <;> ((try simp only [Bool.not_eq_true', Bool.not_eq_false'] at hb) <;> (try (have hbe := of_decide_eq_true hb)) <;> (try (have hbe := eq_of_beq hb)))) | (refine aops_partB ?_) | (refine qops_partB ?_))
        exact hK.out _ _ ⟨keys.length - (k + 1), by omega, k + 1, q, ver, out, by omega, rfl, rfl, by simp [put, a7, e7], hq, by omega, h1⟩ (by repeat (first | exact Agree.refl _ _ | refine Agree.put ?_ rfl _ | refine Agree.nest hA2 rfl ?_ | assumption))
      · have h1 : Hid (foldN (chooseStep seed n keys) [] (keys.take (k + 1)) = insAsc keys[k] out) := by
          unfold Hid
          rw [hsH.out]
          unfold chooseStep
          rw [← hcnt.out, if_neg hge]
        clear hje hcnt hsH
        repeat' (first | (refine AWp.quiet (id := 9) (by kernel_rfl) (by kernel_rfl) ?_) | (refine AWp.quiet (id := 13) (by kernel_rfl) (by kernel_rfl) ?_) | (refine KV.run _ ?_) | (refine KQ.run _ ?_) | (refine KT.run _ ?_) | (refine AWp.seqH fun KC => ?_) | (refine AWp.block ?_) | (refine AWp.region ?_) | (refine mops_step0 rfl rfl fun KC => ?_) | (refine mops_step1 rfl fun KC => ?_) | (refine mops_step2 rfl fun KC => ?_) | (refine AWp.ret ?_) | (refine AWp.skip ?_) | (refine AWp.exit ?_) | (refine aops_callH rfl fun kC => ?_) | (refine qops_callH rfl fun kC => ?_) | (refine AWp.condB ?_) | (simp only [bse, wk, tys, storeH_ptr, Nat.reduceEqDiff, ↓reduceIte, reduceCtorEq, Nat.reduceAdd, Nat.reduceLeDiff, Int.reduceBEq, Int.reduceLT, Int.reduceLE, Int.reduceEq, ne_eq, not_false_eq_true, Nat.reduceMul, quorumE_val, quorumE_sz, quorumResultE_val, quorumResultE_sz, Int.reduceToNat, Int.cast_ofNat_Int, *]) | (refine condK_bool (fun hb => ?_) (fun hb => ?_) <;> ((try simp only [Bool.not_eq_true', Bool.not_eq_false'] at hb) <;> (try (have hbe := of_decide_eq_true hb)) <;> (try (have hbe := eq_of_beq hb)))) | (refine aops_partB ?_) | (refine qops_partB ?_))
        refine AWp.loopH [40, 41, 42, 43, 44, 45, 46, 47, 48, 49, 50, 51, 52, 53, 54, 55, 56, 11] (fun m e' H2 => ∃ i : Nat, i ≤ out.length ∧ m = out.length - i ∧ e' 11 = .int .i64 i ∧ H2 = H' ∧ Hid (∀ j (h : j < out.length), j < i → out[j] < keys[k])) out.length ⟨0, by omega, by omega, rfl, rfl, fun j _ h => by omega⟩ ?_
        rintro m e' H2 hA ⟨i, hi, rfl, e11, hH2, hI⟩ hJ2
        subst hH2
        have hA3 := hA
        have a0 := hA 0 rfl; have a6 := hA 6 rfl; have a7 := hA 7 rfl; have a8 := hA 8 rfl; try simp only [bse, wk, tys, storeH_ptr, Nat.reduceEqDiff, ↓reduceIte, reduceCtorEq, Nat.reduceAdd, Nat.reduceLeDiff, Int.reduceBEq, Int.reduceLT, Int.reduceLE, Int.reduceEq, ne_eq, not_false_eq_true, Nat.reduceMul] at a0 a6 a7 a8; clear hA
        have hg0 : H2[q]? = some (sb 2 intE out ver true) := hq
        have stop : ∀ (hst : ∀ h : i < out.length, ¬ out[i] < keys[k]), Hid (foldN (chooseStep seed n keys) [] (keys.take (k + 1)) = out.take i ++ keys[k] :: out.drop i) := fun hst => by
          unfold Hid
          rw [h1.out]
          exact insAsc_at _ _ _ hi hI.out hst
        by_cases hli : i < out.length
        · have hli' : (i : Int) < (out.length : Int) := by omega
          have hwi := wr_succ (k := i) (by omega)
          have hl1 := loadV_sb (P := Try.prog) (E := intE) (T := 2) (k := i) hg0 lay2 hli
          simp only [intE_sz, intE_val, Nat.mul_one] at hl1
          by_cases hx : out[i] < keys[k]
          · clear stop h1
            repeat' (first | (refine AWp.quiet (id := 9) (by kernel_rfl) (by kernel_rfl) ?_) | (refine AWp.quiet (id := 13) (by kernel_rfl) (by kernel_rfl) ?_) | (refine KV.run _ ?_) | (refine KQ.run _ ?_) | (refine KT.run _ ?_) | (refine AWp.seqH fun KC => ?_) | (refine AWp.block ?_) | (refine AWp.region ?_) | (refine mops_step0 rfl rfl fun KC => ?_) | (refine mops_step1 rfl fun KC => ?_) | (refine mops_step2 rfl fun KC => ?_) | (refine AWp.ret ?_) | (refine AWp.skip ?_) | (refine AWp.exit ?_) | (refine aops_callH rfl fun kC => ?_) | (refine qops_callH rfl fun kC => ?_) | (refine AWp.condB ?_) | (simp only [bse, wk, tys, storeH_ptr, Nat.reduceEqDiff, ↓reduceIte, reduceCtorEq, Nat.reduceAdd, Nat.reduceLeDiff, Int.reduceBEq, Int.reduceLT, Int.reduceLE, Int.reduceEq, ne_eq, not_false_eq_true, Nat.reduceMul, quorumE_val, quorumE_sz, quorumResultE_val, quorumResultE_sz, Int.reduceToNat, Int.cast_ofNat_Int, *]) | (refine condK_bool (fun hb => ?_) (fun hb => ?_) <;> ((try simp only [Bool.not_eq_true', Bool.not_eq_false'] at hb) <;> (try (have hbe := of_decide_eq_true hb)) <;> (try (have hbe := eq_of_beq hb)))) | (refine aops_partB ?_) | (refine qops_partB ?_))
            refine hJ2.out _ _ ⟨out.length - (i + 1), by omega, i + 1, by omega, rfl, rfl, rfl, fun j hj hji => ?_⟩ (by repeat (first | exact Agree.refl _ _ | assumption | refine Agree.put ?_ rfl _))
            by_cases e : j = i
            · subst e; exact hx
            · exact hI.out j hj (by omega)
          · have hst := stop fun _ => hx
            have s1 : ∀ H : AH, H[q]? = some ⟨2, 1, intE.flat out, ver, true⟩ → slV Try.prog H 25 (.slice (some ⟨q, 0, none⟩) out.length ver) none (some (.int .i64 (i : Int))) none = some (.slice (some ⟨q, 0, some out.length⟩) i ver) := fun H hb => slV_ownHi (E := intE) elZ25 hb rfl rfl rfl hi
            have s2 : ∀ H : AH, H[q]? = some ⟨2, 1, intE.flat out, ver, true⟩ → slV Try.prog H 25 (.slice (some ⟨q, 0, none⟩) out.length ver) (some (.int .i64 (i : Int))) none none = some (.slice (some ⟨q, i, some (out.length - i)⟩) (out.length - i) ver) := fun H hb => by
              have := slV_ownLo (P := Try.prog) (E := intE) (t := 25) (kd := .i64) (i := i) elZ25 (show H[q]? = some (sb 2 intE out ver true) from hb) hi
              simpa [intE_sz] using this
            have hsA : ∀ H : AH, H[q]? = some ⟨2, 1, intE.flat out, ver, true⟩ → srcV Try.prog H 2 1 25 (.slice (some ⟨q, 0, some out.length⟩) i ver) = some ((out.take i).length, intE.flat (out.take i)) := fun H h2 => by
              have h3 : ((intE.flat out).drop 0).take (i * 1) = intE.flat (out.take i) := by simp [intE_map, List.map_take]
              have h4 : 0 + i * 1 ≤ (intE.flat out).length := by rw [intE_map]; simp; exact hi
              have h5 := srcV_own (P := Try.prog) (E := intE) (H := H) (el := 2) (t := 25) (off := 0) (m := i) (sp := some out.length) elZ25 h2 rfl rfl h3 h4
              rw [List.length_take, Nat.min_eq_left hi]
              exact h5
            have hsC : ∀ H : AH, H[q]? = some ⟨2, 1, intE.flat out, ver, true⟩ → srcV Try.prog H 2 1 25 (.slice (some ⟨q, i, some (out.length - i)⟩) (out.length - i) ver) = some ((out.drop i).length, intE.flat (out.drop i)) := fun H h2 => by
              have h3 : ((intE.flat out).drop i).take ((out.length - i) * 1) = intE.flat (out.drop i) := by
                rw [intE_map, intE_map, List.map_drop, Nat.mul_one, List.take_of_length_le]
                simp
              have h4 : i + (out.length - i) * 1 ≤ (intE.flat out).length := by rw [intE_map]; simp; omega
              have h5 := srcV_own (P := Try.prog) (E := intE) (H := H) (el := 2) (t := 25) (off := i) (m := out.length - i) (sp := some (out.length - i)) elZ25 h2 rfl rfl h3 h4
              rw [List.length_drop]
              exact h5
            have apA : ∀ (H : AH) (r : Nat), H[r]? = some ⟨2, 1, [], 0, true⟩ → H[q]? = some ⟨2, 1, intE.flat out, ver, true⟩ → appendH Try.prog 0 H 25 25 (.slice (some ⟨r, 0, none⟩) 0 0) (.slice (some ⟨q, 0, some out.length⟩) i ver) = some (.slice (some ⟨r, 0, none⟩) i 1, H.set r ⟨2, 1, intE.flat (out.take i), 1, true⟩) := fun H r h1 h2 => by
              have := appendH_sb (P := Try.prog) (B := 0) (E := intE) (xs := []) (ys := out.take i) (r := r) (t := 25) (tx := 25) (o := true) (ver := 0) (x := .slice (some ⟨q, 0, some out.length⟩) i ver) elZ25 zOk25 h1 (Nat.zero_le _) (hsA H h2) (by simp; omega) (by simp; omega)
              simpa [sb, intE_sz, Nat.min_eq_left hi] using this
            have apB : ∀ (H : AH) (r r' : Nat), H[r]? = some ⟨2, 1, intE.flat (out.take i), 1, true⟩ → H[r']? = some ⟨2, 1, [.int .i64 keys[k]], 0, true⟩ → appendH Try.prog 0 H 25 25 (.slice (some ⟨r, 0, none⟩) i 1) (.slice (some ⟨r', 0, none⟩) 1 0) = some (.slice (some ⟨r, 0, none⟩) (i + 1) 2, H.set r ⟨2, 1, intE.flat (out.take i ++ [keys[k]]), 2, true⟩) := fun H r r' h1 h2 => by
              have := appendH_sb (P := Try.prog) (B := 0) (E := intE) (xs := out.take i) (ys := [keys[k]]) (r := r) (t := 25) (tx := 25) (o := true) (ver := 1) (x := .slice (some ⟨r', 0, none⟩) 1 0) elZ25 zOk25 h1 (Nat.zero_le _) (srcV_own elZ25 h2 rfl rfl rfl (Nat.le_refl _)) (by simp; omega) (by simp; omega)
              simpa [sb, intE_sz, Nat.min_eq_left hi] using this
            have apC : ∀ (H : AH) (r : Nat), H[r]? = some ⟨2, 1, intE.flat (out.take i ++ [keys[k]]), 2, true⟩ → H[q]? = some ⟨2, 1, intE.flat out, ver, true⟩ → appendH Try.prog 0 H 25 25 (.slice (some ⟨r, 0, none⟩) (i + 1) 2) (.slice (some ⟨q, i, some (out.length - i)⟩) (out.length - i) ver) = some (.slice (some ⟨r, 0, none⟩) (out.length + 1) 3, H.set r ⟨2, 1, intE.flat (out.take i ++ keys[k] :: out.drop i), 3, true⟩) := fun H r h1 h2 => by
              have := appendH_sb (P := Try.prog) (B := 0) (E := intE) (xs := out.take i ++ [keys[k]]) (ys := out.drop i) (r := r) (t := 25) (tx := 25) (o := true) (ver := 2) (x := .slice (some ⟨q, i, some (out.length - i)⟩) (out.length - i) ver) elZ25 zOk25 h1 (Nat.zero_le _) (hsC H h2) (by simp; omega) (by simp; omega)
              have e1 : (out.take i ++ [keys[k]]).length = i + 1 := by simp; omega
              have e2 : (out.take i ++ [keys[k]] ++ out.drop i).length = out.length + 1 := by simp; omega
              have e3 : out.take i ++ [keys[k]] ++ out.drop i = out.take i ++ keys[k] :: out.drop i := by simp
              rw [e2, e3, e1] at this
              simpa [sb, intE_sz] using this
            have hqx : ∀ L : AH, (H2 ++ L)[q]? = some ⟨2, 1, intE.flat out, ver, true⟩ := fun L => get_old hq
            have hll : Hid ((out.take i ++ keys[k] :: out.drop i).length = out.length + 1) := by unfold Hid; simp; omega
            clear h1 stop hI
            repeat' (first | (refine AWp.quiet (id := 9) (by kernel_rfl) (by kernel_rfl) ?_) | (refine AWp.quiet (id := 13) (by kernel_rfl) (by kernel_rfl) ?_) | (refine KV.run _ ?_) | (refine KQ.run _ ?_) | (refine KT.run _ ?_) | (refine AWp.seqH fun KC => ?_) | (refine AWp.block ?_) | (refine AWp.region ?_) | (refine mops_step0 rfl rfl fun KC => ?_) | (refine mops_step1 rfl fun KC => ?_) | (refine mops_step2 rfl fun KC => ?_) | (refine AWp.ret ?_) | (refine AWp.skip ?_) | (refine AWp.exit ?_) | (refine aops_callH rfl fun kC => ?_) | (refine qops_callH rfl fun kC => ?_) | (refine AWp.condB ?_) | (simp only [bse, wk, tys, storeH_ptr, Nat.reduceEqDiff, ↓reduceIte, reduceCtorEq, Nat.reduceAdd, Nat.reduceLeDiff, Int.reduceBEq, Int.reduceLT, Int.reduceLE, Int.reduceEq, ne_eq, not_false_eq_true, Nat.reduceMul, quorumE_val, quorumE_sz, quorumResultE_val, quorumResultE_sz, Int.reduceToNat, Int.cast_ofNat_Int, *]) | (refine condK_bool (fun hb => ?_) (fun hb => ?_) <;> ((try simp only [Bool.not_eq_true', Bool.not_eq_false'] at hb) <;> (try (have hbe := of_decide_eq_true hb)) <;> (try (have hbe := eq_of_beq hb)))) | (refine aops_partB ?_) | (refine qops_partB ?_))
            refine AWp.mixedU (id := 15) (.cons 1 0 (.cons 2 0 (.cons 3 0 (.cons 5 0 (.cons 6 0 (.cons 7 0 (.cons 11 0 (.cons 12 0 (.cons 13 0 (.alt 0 1 (.alt 4 2 (.cons 8 0 (.cons 9 1 (.cons 10 2 (.cons 14 2 (.cons 15 0 .nil))))) (.cons 8 1 (.alt 4 2 (.cons 9 1 (.cons 10 2 (.cons 14 2 (.cons 15 0 .nil)))) (.cons 9 1 (.cons 4 2 (.cons 10 2 (.cons 14 2 (.cons 15 0 .nil)))))))) (.cons 8 1 (.alt 0 1 (.alt 4 2 (.cons 9 1 (.cons 10 2 (.cons 14 2 (.cons 15 0 .nil)))) (.cons 9 1 (.cons 4 2 (.cons 10 2 (.cons 14 2 (.cons 15 0 .nil)))))) (.cons 9 1 (.cons 0 1 (.cons 4 2 (.cons 10 2 (.cons 14 2 (.cons 15 0 .nil)))))))))))))))))) (by kernel_rfl) (by kernel_rfl) ?_
            refine mopsT_abs fun e0 he0 => ?_
            have r0 := congrFun he0 0
            have r7 := congrFun he0 7
            have r8 := congrFun he0 8
            have r11 := congrFun he0 11
            try simp only [bse, wk, tys, storeH_ptr, Nat.reduceEqDiff, ↓reduceIte, reduceCtorEq, Nat.reduceAdd, Nat.reduceLeDiff, Int.reduceBEq, Int.reduceLT, Int.reduceLE, Int.reduceEq, ne_eq, not_false_eq_true, Nat.reduceMul, quorumE_val, quorumE_sz, quorumResultE_val, quorumResultE_sz, Int.reduceToNat, Int.cast_ofNat_Int] at r0 r7 r8 r11
            have he1 : Hid _ := he0
            clear he0
            refine mopsT_mono (K := fun e' H' => Agree [7, 57, 58, 59, 60, 61, 62, 63, 64, 65, 66, 67, 68, 69, 70, 71] e0 e' ∧ (∃ (q' ver' : Nat), e' 7 = .slice (some ⟨q', 0, none⟩) (out.length + 1) ver' ∧ H'[q']? = some ⟨2, 1, intE.flat (out.take i ++ keys[k] :: out.drop i), ver', true⟩)) ?_ _ _ _ ?_
            rotate_left
            · repeat' (first | (refine mopsT_step0 rfl rfl fun KC => ?_) | (refine mopsT_step1 rfl fun KC => ?_) | (refine mopsT_step2 rfl fun KC => ?_) | (refine mopsT_alt1 rfl (fun KC => ?_) ?_) | (refine mopsT_alt2 rfl (fun KC => ?_) ?_) | (refine KV.run _ ?_) | (refine KQ.run _ ?_) | (refine KT.run _ ?_) | (refine AWp.seqH fun KC => ?_) | (refine AWp.block ?_) | (refine AWp.region ?_) | (refine mops_step0 rfl rfl fun KC => ?_) | (refine mops_step1 rfl fun KC => ?_) | (refine mops_step2 rfl fun KC => ?_) | (refine AWp.ret ?_) | (refine AWp.skip ?_) | (refine AWp.exit ?_) | (refine aops_callH rfl fun kC => ?_) | (refine qops_callH rfl fun kC => ?_) | (refine AWp.condB ?_) | (simp only [bse, wk, tys, storeH_ptr, Nat.reduceEqDiff, ↓reduceIte, reduceCtorEq, Nat.reduceAdd, Nat.reduceLeDiff, Int.reduceBEq, Int.reduceLT, Int.reduceLE, Int.reduceEq, ne_eq, not_false_eq_true, Nat.reduceMul, quorumE_val, quorumE_sz, quorumResultE_val, quorumResultE_sz, Int.reduceToNat, Int.cast_ofNat_Int, *]) | (refine condK_bool (fun hb => ?_) (fun hb => ?_) <;> ((try simp only [Bool.not_eq_true', Bool.not_eq_false'] at hb) <;> (try (have hbe := of_decide_eq_true hb)) <;> (try (have hbe := eq_of_beq hb)))) | (refine aops_partB ?_) | (refine qops_partB ?_))
              all_goals first
                | exact ⟨(by repeat (first | exact Agree.refl _ _ | assumption | refine Agree.put ?_ rfl _)), _, _, rfl, get_app0⟩
                | exact ⟨(by repeat (first | exact Agree.refl _ _ | assumption | refine Agree.put ?_ rfl _)), _, _, rfl, get_appk _⟩
                | (refine ⟨(by repeat (first | exact Agree.refl _ _ | assumption | refine Agree.put ?_ rfl _)), _, _, rfl, ?_⟩; simp only [get_app0, get_appk]; rfl)
            rintro e1 H1 ⟨hA, q', ver', e7', hq'⟩
            have hA4 := hA
            have he3 := he1
            have he2 := he1.out
            clear he1
            have a0 := hA 0 rfl
            have a1 := hA 1 rfl
            have a2 := hA 2 rfl
            have a6 := hA 6 rfl
            have a8 := hA 8 rfl
            have a9 := hA 9 rfl
            have a10 := hA 10 rfl
            have a11 := hA 11 rfl
            have a13 := hA 13 rfl
            have a14 := hA 14 rfl
            have a15 := hA 15 rfl
            have a16 := hA 16 rfl
            have a19 := hA 19 rfl
            have a20 := hA 20 rfl
            have a21 := hA 21 rfl
            have a22 := hA 22 rfl
            have a23 := hA 23 rfl
            have a24 := hA 24 rfl
            have a25 := hA 25 rfl
            have a26 := hA 26 rfl
            have a27 := hA 27 rfl
            have a28 := hA 28 rfl
            have a29 := hA 29 rfl
            have a30 := hA 30 rfl
            have a31 := hA 31 rfl
            have a32 := hA 32 rfl
            have a33 := hA 33 rfl
            have a34 := hA 34 rfl
            have a35 := hA 35 rfl
            have a36 := hA 36 rfl
            have a37 := hA 37 rfl
            have a38 := hA 38 rfl
            have a39 := hA 39 rfl
            have a40 := hA 40 rfl
            have a41 := hA 41 rfl
            have a42 := hA 42 rfl
            have a43 := hA 43 rfl
            have a44 := hA 44 rfl
            have a45 := hA 45 rfl
            have a46 := hA 46 rfl
            have a47 := hA 47 rfl
            have a48 := hA 48 rfl
            have a49 := hA 49 rfl
            have a50 := hA 50 rfl
            have a51 := hA 51 rfl
            have a52 := hA 52 rfl
            have a53 := hA 53 rfl
            have a54 := hA 54 rfl
            have a55 := hA 55 rfl
            have a56 := hA 56 rfl
            rw [he2] at a0 a1 a2 a6 a8 a9 a10 a11 a13 a14 a15 a16 a19 a20 a21 a22 a23 a24 a25 a26 a27 a28 a29 a30 a31 a32 a33 a34 a35 a36 a37 a38 a39 a40 a41 a42 a43 a44 a45 a46 a47 a48 a49 a50 a51 a52 a53 a54 a55 a56
            try simp only [bse, wk, tys, storeH_ptr, Nat.reduceEqDiff, ↓reduceIte, reduceCtorEq, Nat.reduceAdd, Nat.reduceLeDiff, Int.reduceBEq, Int.reduceLT, Int.reduceLE, Int.reduceEq, ne_eq, not_false_eq_true, Nat.reduceMul, quorumE_val, quorumE_sz, quorumResultE_val, quorumResultE_sz, Int.reduceToNat, Int.cast_ofNat_Int] at a0 a1 a2 a6 a8 a9 a10 a11 a13 a14 a15 a16 a19 a20 a21 a22 a23 a24 a25 a26 a27 a28 a29 a30 a31 a32 a33 a34 a35 a36 a37 a38 a39 a40 a41 a42 a43 a44 a45 a46 a47 a48 a49 a50 a51 a52 a53 a54 a55 a56
            clear hA he2
            repeat' (first | (refine AWp.quiet (id := 9) (by kernel_rfl) (by kernel_rfl) ?_) | (refine AWp.quiet (id := 13) (by kernel_rfl) (by kernel_rfl) ?_) | (refine KV.run _ ?_) | (refine KQ.run _ ?_) | (refine KT.run _ ?_) | (refine AWp.seqH fun KC => ?_) | (refine AWp.block ?_) | (refine AWp.region ?_) | (refine mops_step0 rfl rfl fun KC => ?_) | (refine mops_step1 rfl fun KC => ?_) | (refine mops_step2 rfl fun KC => ?_) | (refine AWp.ret ?_) | (refine AWp.skip ?_) | (refine AWp.exit ?_) | (refine aops_callH rfl fun kC => ?_) | (refine qops_callH rfl fun kC => ?_) | (refine AWp.condB ?_) | (simp only [bse, wk, tys, storeH_ptr, Nat.reduceEqDiff, ↓reduceIte, reduceCtorEq, Nat.reduceAdd, Nat.reduceLeDiff, Int.reduceBEq, Int.reduceLT, Int.reduceLE, Int.reduceEq, ne_eq, not_false_eq_true, Nat.reduceMul, quorumE_val, quorumE_sz, quorumResultE_val, quorumResultE_sz, Int.reduceToNat, Int.cast_ofNat_Int, *]) | (refine condK_bool (fun hb => ?_) (fun hb => ?_) <;> ((try simp only [Bool.not_eq_true', Bool.not_eq_false'] at hb) <;> (try (have hbe := of_decide_eq_true hb)) <;> (try (have hbe := eq_of_beq hb)))) | (refine aops_partB ?_) | (refine qops_partB ?_))
            exact hK.out _ _ ⟨keys.length - (k + 1), by omega, k + 1, q', ver', out.take i ++ keys[k] :: out.drop i, by omega, rfl, by simp [put, *], by rw [hll.out]; simp [put, e7'], hq', by rw [hll.out]; omega, hst.out.symm⟩ (by repeat (first | exact Agree.refl _ _ | refine Agree.put ?_ rfl _ | refine Agree.nest hA4 rfl ?_ | rw [he3.out] | refine Agree.nest hA3 rfl ?_ | refine Agree.nest hA2 rfl ?_ | assumption))
        · have hli' : ¬ (i : Int) < (out.length : Int) := by omega
          have hst := stop fun h => absurd h hli
          have s1 : ∀ H : AH, H[q]? = some ⟨2, 1, intE.flat out, ver, true⟩ → slV Try.prog H 25 (.slice (some ⟨q, 0, none⟩) out.length ver) none (some (.int .i64 (i : Int))) none = some (.slice (some ⟨q, 0, some out.length⟩) i ver) := fun H hb => slV_ownHi (E := intE) elZ25 hb rfl rfl rfl hi
          have s2 : ∀ H : AH, H[q]? = some ⟨2, 1, intE.flat out, ver, true⟩ → slV Try.prog H 25 (.slice (some ⟨q, 0, none⟩) out.length ver) (some (.int .i64 (i : Int))) none none = some (.slice (some ⟨q, i, some (out.length - i)⟩) (out.length - i) ver) := fun H hb => by
            have := slV_ownLo (P := Try.prog) (E := intE) (t := 25) (kd := .i64) (i := i) elZ25 (show H[q]? = some (sb 2 intE out ver true) from hb) hi
            simpa [intE_sz] using this
          have hsA : ∀ H : AH, H[q]? = some ⟨2, 1, intE.flat out, ver, true⟩ → srcV Try.prog H 2 1 25 (.slice (some ⟨q, 0, some out.length⟩) i ver) = some ((out.take i).length, intE.flat (out.take i)) := fun H h2 => by
            have h3 : ((intE.flat out).drop 0).take (i * 1) = intE.flat (out.take i) := by simp [intE_map, List.map_take]
            have h4 : 0 + i * 1 ≤ (intE.flat out).length := by rw [intE_map]; simp; exact hi
            have h5 := srcV_own (P := Try.prog) (E := intE) (H := H) (el := 2) (t := 25) (off := 0) (m := i) (sp := some out.length) elZ25 h2 rfl rfl h3 h4
            rw [List.length_take, Nat.min_eq_left hi]
            exact h5
          have hsC : ∀ H : AH, H[q]? = some ⟨2, 1, intE.flat out, ver, true⟩ → srcV Try.prog H 2 1 25 (.slice (some ⟨q, i, some (out.length - i)⟩) (out.length - i) ver) = some ((out.drop i).length, intE.flat (out.drop i)) := fun H h2 => by
            have h3 : ((intE.flat out).drop i).take ((out.length - i) * 1) = intE.flat (out.drop i) := by
              rw [intE_map, intE_map, List.map_drop, Nat.mul_one, List.take_of_length_le]
              simp
            have h4 : i + (out.length - i) * 1 ≤ (intE.flat out).length := by rw [intE_map]; simp; omega
            have h5 := srcV_own (P := Try.prog) (E := intE) (H := H) (el := 2) (t := 25) (off := i) (m := out.length - i) (sp := some (out.length - i)) elZ25 h2 rfl rfl h3 h4
            rw [List.length_drop]
            exact h5
          have apA : ∀ (H : AH) (r : Nat), H[r]? = some ⟨2, 1, [], 0, true⟩ → H[q]? = some ⟨2, 1, intE.flat out, ver, true⟩ → appendH Try.prog 0 H 25 25 (.slice (some ⟨r, 0, none⟩) 0 0) (.slice (some ⟨q, 0, some out.length⟩) i ver) = some (.slice (some ⟨r, 0, none⟩) i 1, H.set r ⟨2, 1, intE.flat (out.take i), 1, true⟩) := fun H r h1 h2 => by
            have := appendH_sb (P := Try.prog) (B := 0) (E := intE) (xs := []) (ys := out.take i) (r := r) (t := 25) (tx := 25) (o := true) (ver := 0) (x := .slice (some ⟨q, 0, some out.length⟩) i ver) elZ25 zOk25 h1 (Nat.zero_le _) (hsA H h2) (by simp; omega) (by simp; omega)
            simpa [sb, intE_sz, Nat.min_eq_left hi] using this
          have apB : ∀ (H : AH) (r r' : Nat), H[r]? = some ⟨2, 1, intE.flat (out.take i), 1, true⟩ → H[r']? = some ⟨2, 1, [.int .i64 keys[k]], 0, true⟩ → appendH Try.prog 0 H 25 25 (.slice (some ⟨r, 0, none⟩) i 1) (.slice (some ⟨r', 0, none⟩) 1 0) = some (.slice (some ⟨r, 0, none⟩) (i + 1) 2, H.set r ⟨2, 1, intE.flat (out.take i ++ [keys[k]]), 2, true⟩) := fun H r r' h1 h2 => by
            have := appendH_sb (P := Try.prog) (B := 0) (E := intE) (xs := out.take i) (ys := [keys[k]]) (r := r) (t := 25) (tx := 25) (o := true) (ver := 1) (x := .slice (some ⟨r', 0, none⟩) 1 0) elZ25 zOk25 h1 (Nat.zero_le _) (srcV_own elZ25 h2 rfl rfl rfl (Nat.le_refl _)) (by simp; omega) (by simp; omega)
            simpa [sb, intE_sz, Nat.min_eq_left hi] using this
          have apC : ∀ (H : AH) (r : Nat), H[r]? = some ⟨2, 1, intE.flat (out.take i ++ [keys[k]]), 2, true⟩ → H[q]? = some ⟨2, 1, intE.flat out, ver, true⟩ → appendH Try.prog 0 H 25 25 (.slice (some ⟨r, 0, none⟩) (i + 1) 2) (.slice (some ⟨q, i, some (out.length - i)⟩) (out.length - i) ver) = some (.slice (some ⟨r, 0, none⟩) (out.length + 1) 3, H.set r ⟨2, 1, intE.flat (out.take i ++ keys[k] :: out.drop i), 3, true⟩) := fun H r h1 h2 => by
            have := appendH_sb (P := Try.prog) (B := 0) (E := intE) (xs := out.take i ++ [keys[k]]) (ys := out.drop i) (r := r) (t := 25) (tx := 25) (o := true) (ver := 2) (x := .slice (some ⟨q, i, some (out.length - i)⟩) (out.length - i) ver) elZ25 zOk25 h1 (Nat.zero_le _) (hsC H h2) (by simp; omega) (by simp; omega)
            have e1 : (out.take i ++ [keys[k]]).length = i + 1 := by simp; omega
            have e2 : (out.take i ++ [keys[k]] ++ out.drop i).length = out.length + 1 := by simp; omega
            have e3 : out.take i ++ [keys[k]] ++ out.drop i = out.take i ++ keys[k] :: out.drop i := by simp
            rw [e2, e3, e1] at this
            simpa [sb, intE_sz] using this
          have hqx : ∀ L : AH, (H2 ++ L)[q]? = some ⟨2, 1, intE.flat out, ver, true⟩ := fun L => get_old hq
          have hll : Hid ((out.take i ++ keys[k] :: out.drop i).length = out.length + 1) := by unfold Hid; simp; omega
          clear h1 stop hI
          repeat' (first | (refine AWp.quiet (id := 9) (by kernel_rfl) (by kernel_rfl) ?_) | (refine AWp.quiet (id := 13) (by kernel_rfl) (by kernel_rfl) ?_) | (refine KV.run _ ?_) | (refine KQ.run _ ?_) | (refine KT.run _ ?_) | (refine AWp.seqH fun KC => ?_) | (refine AWp.block ?_) | (refine AWp.region ?_) | (refine mops_step0 rfl rfl fun KC => ?_) | (refine mops_step1 rfl fun KC => ?_) | (refine mops_step2 rfl fun KC => ?_) | (refine AWp.ret ?_) | (refine AWp.skip ?_) | (refine AWp.exit ?_) | (refine aops_callH rfl fun kC => ?_) | (refine qops_callH rfl fun kC => ?_) | (refine AWp.condB ?_) | (simp only [bse, wk, tys, storeH_ptr, Nat.reduceEqDiff, ↓reduceIte, reduceCtorEq, Nat.reduceAdd, Nat.reduceLeDiff, Int.reduceBEq, Int.reduceLT, Int.reduceLE, Int.reduceEq, ne_eq, not_false_eq_true, Nat.reduceMul, quorumE_val, quorumE_sz, quorumResultE_val, quorumResultE_sz, Int.reduceToNat, Int.cast_ofNat_Int, *]) | (refine condK_bool (fun hb => ?_) (fun hb => ?_) <;> ((try simp only [Bool.not_eq_true', Bool.not_eq_false'] at hb) <;> (try (have hbe := of_decide_eq_true hb)) <;> (try (have hbe := eq_of_beq hb)))) | (refine aops_partB ?_) | (refine qops_partB ?_))
          refine AWp.mixedU (id := 15) (.cons 1 0 (.cons 2 0 (.cons 3 0 (.cons 5 0 (.cons 6 0 (.cons 7 0 (.cons 11 0 (.cons 12 0 (.cons 13 0 (.alt 0 1 (.alt 4 2 (.cons 8 0 (.cons 9 1 (.cons 10 2 (.cons 14 2 (.cons 15 0 .nil))))) (.cons 8 1 (.alt 4 2 (.cons 9 1 (.cons 10 2 (.cons 14 2 (.cons 15 0 .nil)))) (.cons 9 1 (.cons 4 2 (.cons 10 2 (.cons 14 2 (.cons 15 0 .nil)))))))) (.cons 8 1 (.alt 0 1 (.alt 4 2 (.cons 9 1 (.cons 10 2 (.cons 14 2 (.cons 15 0 .nil)))) (.cons 9 1 (.cons 4 2 (.cons 10 2 (.cons 14 2 (.cons 15 0 .nil)))))) (.cons 9 1 (.cons 0 1 (.cons 4 2 (.cons 10 2 (.cons 14 2 (.cons 15 0 .nil)))))))))))))))))) (by kernel_rfl) (by kernel_rfl) ?_
          refine mopsT_abs fun e0 he0 => ?_
          have r0 := congrFun he0 0
          have r7 := congrFun he0 7
          have r8 := congrFun he0 8
          have r11 := congrFun he0 11
          try simp only [bse, wk, tys, storeH_ptr, Nat.reduceEqDiff, ↓reduceIte, reduceCtorEq, Nat.reduceAdd, Nat.reduceLeDiff, Int.reduceBEq, Int.reduceLT, Int.reduceLE, Int.reduceEq, ne_eq, not_false_eq_true, Nat.reduceMul, quorumE_val, quorumE_sz, quorumResultE_val, quorumResultE_sz, Int.reduceToNat, Int.cast_ofNat_Int] at r0 r7 r8 r11
          have he1 : Hid _ := he0
          clear he0
          refine mopsT_mono (K := fun e' H' => Agree [7, 57, 58, 59, 60, 61, 62, 63, 64, 65, 66, 67, 68, 69, 70, 71] e0 e' ∧ (∃ (q' ver' : Nat), e' 7 = .slice (some ⟨q', 0, none⟩) (out.length + 1) ver' ∧ H'[q']? = some ⟨2, 1, intE.flat (out.take i ++ keys[k] :: out.drop i), ver', true⟩)) ?_ _ _ _ ?_
          rotate_left
          · repeat' (first | (refine mopsT_step0 rfl rfl fun KC => ?_) | (refine mopsT_step1 rfl fun KC => ?_) | (refine mopsT_step2 rfl fun KC => ?_) | (refine mopsT_alt1 rfl (fun KC => ?_) ?_) | (refine mopsT_alt2 rfl (fun KC => ?_) ?_) | (refine KV.run _ ?_) | (refine KQ.run _ ?_) | (refine KT.run _ ?_) | (refine AWp.seqH fun KC => ?_) | (refine AWp.block ?_) | (refine AWp.region ?_) | (refine mops_step0 rfl rfl fun KC => ?_) | (refine mops_step1 rfl fun KC => ?_) | (refine mops_step2 rfl fun KC => ?_) | (refine AWp.ret ?_) | (refine AWp.skip ?_) | (refine AWp.exit ?_) | (refine aops_callH rfl fun kC => ?_) | (refine qops_callH rfl fun kC => ?_) | (refine AWp.condB ?_) | (simp only [bse, wk, tys, storeH_ptr, Nat.reduceEqDiff, ↓reduceIte, reduceCtorEq, Nat.reduceAdd, Nat.reduceLeDiff, Int.reduceBEq, Int.reduceLT, Int.reduceLE, Int.reduceEq, ne_eq, not_false_eq_true, Nat.reduceMul, quorumE_val, quorumE_sz, quorumResultE_val, quorumResultE_sz, Int.reduceToNat, Int.cast_ofNat_Int, *]) | (refine condK_bool (fun hb => ?_) (fun hb => ?_) <;> ((try simp only [Bool.not_eq_true', Bool.not_eq_false'] at hb) <;> (try (have hbe := of_decide_eq_true hb)) <;> (try (have hbe := eq_of_beq hb)))) | (refine aops_partB ?_) | (refine qops_partB ?_))
            all_goals first
              | exact ⟨(by repeat (first | exact Agree.refl _ _ | assumption | refine Agree.put ?_ rfl _)), _, _, rfl, get_app0⟩
              | exact ⟨(by repeat (first | exact Agree.refl _ _ | assumption | refine Agree.put ?_ rfl _)), _, _, rfl, get_appk _⟩
              | (refine ⟨(by repeat (first | exact Agree.refl _ _ | assumption | refine Agree.put ?_ rfl _)), _, _, rfl, ?_⟩; simp only [get_app0, get_appk]; rfl)
          rintro e1 H1 ⟨hA, q', ver', e7', hq'⟩
          have hA4 := hA
          have he3 := he1
          have he2 := he1.out
          clear he1
          have a0 := hA 0 rfl
          have a1 := hA 1 rfl
          have a2 := hA 2 rfl
          have a6 := hA 6 rfl
          have a8 := hA 8 rfl
          have a9 := hA 9 rfl
          have a10 := hA 10 rfl
          have a11 := hA 11 rfl
          have a13 := hA 13 rfl
          have a14 := hA 14 rfl
          have a15 := hA 15 rfl
          have a16 := hA 16 rfl
          have a19 := hA 19 rfl
          have a20 := hA 20 rfl
          have a21 := hA 21 rfl
          have a22 := hA 22 rfl
          have a23 := hA 23 rfl
          have a24 := hA 24 rfl
          have a25 := hA 25 rfl
          have a26 := hA 26 rfl
          have a27 := hA 27 rfl
          have a28 := hA 28 rfl
          have a29 := hA 29 rfl
          have a30 := hA 30 rfl
          have a31 := hA 31 rfl
          have a32 := hA 32 rfl
          have a33 := hA 33 rfl
          have a34 := hA 34 rfl
          have a35 := hA 35 rfl
          have a36 := hA 36 rfl
          have a37 := hA 37 rfl
          have a38 := hA 38 rfl
          have a39 := hA 39 rfl
          have a40 := hA 40 rfl
          have a41 := hA 41 rfl
          have a42 := hA 42 rfl
          have a43 := hA 43 rfl
          have a44 := hA 44 rfl
          have a45 := hA 45 rfl
          have a46 := hA 46 rfl
          have a47 := hA 47 rfl
          have a48 := hA 48 rfl
          have a49 := hA 49 rfl
          have a50 := hA 50 rfl
          have a51 := hA 51 rfl
          have a52 := hA 52 rfl
          have a53 := hA 53 rfl
          have a54 := hA 54 rfl
          have a55 := hA 55 rfl
          have a56 := hA 56 rfl
          rw [he2] at a0 a1 a2 a6 a8 a9 a10 a11 a13 a14 a15 a16 a19 a20 a21 a22 a23 a24 a25 a26 a27 a28 a29 a30 a31 a32 a33 a34 a35 a36 a37 a38 a39 a40 a41 a42 a43 a44 a45 a46 a47 a48 a49 a50 a51 a52 a53 a54 a55 a56
          try simp only [bse, wk, tys, storeH_ptr, Nat.reduceEqDiff, ↓reduceIte, reduceCtorEq, Nat.reduceAdd, Nat.reduceLeDiff, Int.reduceBEq, Int.reduceLT, Int.reduceLE, Int.reduceEq, ne_eq, not_false_eq_true, Nat.reduceMul, quorumE_val, quorumE_sz, quorumResultE_val, quorumResultE_sz, Int.reduceToNat, Int.cast_ofNat_Int] at a0 a1 a2 a6 a8 a9 a10 a11 a13 a14 a15 a16 a19 a20 a21 a22 a23 a24 a25 a26 a27 a28 a29 a30 a31 a32 a33 a34 a35 a36 a37 a38 a39 a40 a41 a42 a43 a44 a45 a46 a47 a48 a49 a50 a51 a52 a53 a54 a55 a56
          clear hA he2
          repeat' (first | (refine AWp.quiet (id := 9) (by kernel_rfl) (by kernel_rfl) ?_) | (refine AWp.quiet (id := 13) (by kernel_rfl) (by kernel_rfl) ?_) | (refine KV.run _ ?_) | (refine KQ.run _ ?_) | (refine KT.run _ ?_) | (refine AWp.seqH fun KC => ?_) | (refine AWp.block ?_) | (refine AWp.region ?_) | (refine mops_step0 rfl rfl fun KC => ?_) | (refine mops_step1 rfl fun KC => ?_) | (refine mops_step2 rfl fun KC => ?_) | (refine AWp.ret ?_) | (refine AWp.skip ?_) | (refine AWp.exit ?_) | (refine aops_callH rfl fun kC => ?_) | (refine qops_callH rfl fun kC => ?_) | (refine AWp.condB ?_) | (simp only [bse, wk, tys, storeH_ptr, Nat.reduceEqDiff, ↓reduceIte, reduceCtorEq, Nat.reduceAdd, Nat.reduceLeDiff, Int.reduceBEq, Int.reduceLT, Int.reduceLE, Int.reduceEq, ne_eq, not_false_eq_true, Nat.reduceMul, quorumE_val, quorumE_sz, quorumResultE_val, quorumResultE_sz, Int.reduceToNat, Int.cast_ofNat_Int, *]) | (refine condK_bool (fun hb => ?_) (fun hb => ?_) <;> ((try simp only [Bool.not_eq_true', Bool.not_eq_false'] at hb) <;> (try (have hbe := of_decide_eq_true hb)) <;> (try (have hbe := eq_of_beq hb)))) | (refine aops_partB ?_) | (refine qops_partB ?_))
          exact hK.out _ _ ⟨keys.length - (k + 1), by omega, k + 1, q', ver', out.take i ++ keys[k] :: out.drop i, by omega, rfl, by simp [put, *], by rw [hll.out]; simp [put, e7'], hq', by rw [hll.out]; omega, hst.out.symm⟩ (by repeat (first | exact Agree.refl _ _ | refine Agree.put ?_ rfl _ | refine Agree.nest hA4 rfl ?_ | rw [he3.out] | refine Agree.nest hA3 rfl ?_ | refine Agree.nest hA2 rfl ?_ | assumption))
  · have hlt' : ¬ (k : Int) < (keys.length : Int) := by omega
    have hke : k = keys.length := by omega
    have hs : Hid (out = chooseL keys seed n) := by have := hF.out; rw [hke, List.take_length] at this; exact this
    clear hF hke
    repeat' (first | (refine AWp.quiet (id := 9) (by kernel_rfl) (by kernel_rfl) ?_) | (refine AWp.quiet (id := 13) (by kernel_rfl) (by kernel_rfl) ?_) | (refine KV.run _ ?_) | (refine KQ.run _ ?_) | (refine KT.run _ ?_) | (refine AWp.seqH fun KC => ?_) | (refine AWp.block ?_) | (refine AWp.region ?_) | (refine mops_step0 rfl rfl fun KC => ?_) | (refine mops_step1 rfl fun KC => ?_) | (refine mops_step2 rfl fun KC => ?_) | (refine AWp.ret ?_) | (refine AWp.skip ?_) | (refine AWp.exit ?_) | (refine aops_callH rfl fun kC => ?_) | (refine qops_callH rfl fun kC => ?_) | (refine AWp.condB ?_) | (simp only [bse, wk, tys, storeH_ptr, Nat.reduceEqDiff, ↓reduceIte, reduceCtorEq, Nat.reduceAdd, Nat.reduceLeDiff, Int.reduceBEq, Int.reduceLT, Int.reduceLE, Int.reduceEq, ne_eq, not_false_eq_true, Nat.reduceMul, quorumE_val, quorumE_sz, quorumResultE_val, quorumResultE_sz, Int.reduceToNat, Int.cast_ofNat_Int, *]) | (refine condK_bool (fun hb => ?_) (fun hb => ?_) <;> ((try simp only [Bool.not_eq_true', Bool.not_eq_false'] at hb) <;> (try (have hbe := of_decide_eq_true hb)) <;> (try (have hbe := eq_of_beq hb)))) | (refine aops_partB ?_) | (refine qops_partB ?_))
    rw [← hs.out]
    exact Bor.sbE (E := intE) hq (fun _ => rfl) rfl
end Go.BM
