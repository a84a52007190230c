/- ChooseQuorum: the reference's side, whole. -/
import Derived.Test.YtfggnccpbdfpeaaT63
set_option linter.unusedVariables false
set_option linter.unusedSimpArgs false
set_option maxRecDepth 100000
set_option maxHeartbeats 4000000
namespace Go.BM
open Go.Proofs Go.RowKit
attribute [local irreducible] ACalls AWp aops qops optK optP cK gateA condK mops qcallK PCalls loadV fldV idxV lenV slV storeH binS
theorem any_mem_int (x : Int) (l : List Int) : (l.any fun y => x == y) = decide (x ∈ l) := by
  induction l with
  | nil => simp
  | cons y l ih => rw [List.any_cons, ih]; by_cases h : x = y <;> simp [h]
theorem nodup_next {xs : List Int} {k : Nat} (hk : k < xs.length) : (xs.take (k + 1)).Nodup ↔ (xs.take k).Nodup ∧ xs[k] ∉ xs.take k := by
  rw [← take_next xs k hk]
  unfold List.Nodup
  rw [List.pairwise_append]
  constructor
  · rintro ⟨h1, _, h2⟩
    exact ⟨h1, fun hm => h2 _ hm xs[k] (by simp) rfl⟩
  · rintro ⟨h1, h2⟩
    exact ⟨h1, List.pairwise_singleton _ _, fun a ha b hb e => h2 (by simp at hb; rw [← hb, ← e]; exact ha)⟩
theorem nodup_take {xs : List Int} (h : xs.Nodup) (k : Nat) : (xs.take k).Nodup := h.sublist (List.take_sublist _ _)
theorem spec_ChooseQuorum (keys : List Int) (seed n : Int) (hn : keys.length ≤ 1048576) : PCalls Try.prog 47 [islE intE keys, .int .i64 seed, .int .i64 n] (quorumResultE.val (chooseQF keys seed n)) := by
  by_cases h8 : (8 : Int) < (keys.length : Int)
  · have e : chooseQF keys seed n = errQ 2 := by unfold chooseQF; simp [h8]
    rw [e]
    unfold errQ
    refine PCalls.of ?_; refine ACalls.enter (n := 65) (rs := [.cell 6 94]) Try.func47 rfl rfl rfl (by kernel_rfl) (by kernel_rfl) (by kernel_rfl) (Nat.le_of_ble_eq_true rfl) ?_
    repeat' (first | (refine AWp.quiet (id := 13) (by kernel_rfl) (by kernel_rfl) ?_) | (refine KV.run _ ?_) | (refine KQ.run _ ?_) | (refine KT.run _ ?_) | (refine AWp.seqH fun KC => ?_) | (refine AWp.block ?_) | (refine AWp.region ?_) | (refine mops_step0 rfl rfl fun KC => ?_) | (refine mops_step1 rfl fun KC => ?_) | (refine mops_step2 rfl fun KC => ?_) | (refine AWp.ret ?_) | (refine AWp.skip ?_) | (refine AWp.exit ?_) | (refine aops_callH rfl fun kC => ?_) | (refine qops_callH rfl fun kC => ?_) | (refine AWp.condB ?_) | (simp only [bse, wk, tys, storeH_ptr, Nat.reduceEqDiff, ↓reduceIte, reduceCtorEq, Nat.reduceAdd, Nat.reduceLeDiff, Int.reduceBEq, Int.reduceLT, Int.reduceLE, Int.reduceEq, ne_eq, not_false_eq_true, Nat.reduceMul, quorumE_val, quorumE_sz, quorumResultE_val, quorumResultE_sz, Int.reduceToNat, Int.cast_ofNat_Int, *]) | (refine condK_bool (fun hb => ?_) (fun hb => ?_) <;> ((try simp only [Bool.not_eq_true', Bool.not_eq_false'] at hb) <;> (try (have hbe := of_decide_eq_true hb)) <;> (try (have hbe := eq_of_beq hb)))) | (refine aops_partB ?_) | (refine qops_partB ?_))
    exact Bor.aggL (.cons (.same _ (.flat _ rfl)) (.cons .nil (.cons (.same _ (.flat _ rfl)) .nil)))
  by_cases hq : inB seed 0 65535 = true ∧ inB n 1 8 = true
  · obtain ⟨hse, hin⟩ := hq
    have hn18 : 1 ≤ n ∧ n ≤ 8 := by unfold inB at hin; simp at hin; exact hin
    obtain ⟨m, rfl⟩ : ∃ m : Nat, n = m := ⟨n.toNat, by omega⟩
    obtain ⟨w, hw⟩ : ∃ w, w = chooseQF keys seed m := ⟨_, rfl⟩
    have hwH : Hid ((keysB keys = false → w = errQ 3) ∧ (keysB keys = true → (¬ keys.Nodup → w = errQ 7) ∧ (keys.Nodup → (keys.length : Int) < (m : Int) → w = errQ 4) ∧ (keys.Nodup → ¬ (keys.length : Int) < (m : Int) → w = ⟨0, ⟨chooseL keys seed m, needQ m⟩⟩))) :=
      ⟨fun h => by rw [hw]; unfold chooseQF; simp [h8, h], fun h => ⟨fun h2 => by rw [hw]; unfold chooseQF; simp [h8, h, hse, hin, h2], fun h2 h3 => by rw [hw]; unfold chooseQF; simp [h8, h, hse, hin, h2]; omega, fun h2 h3 => by rw [hw]; unfold chooseQF; simp [h8, h, hse, hin, h2]; omega⟩⟩
    rw [← hw]
    clear hw
    have hm8 : m ≤ 8 := by omega
    refine PCalls.of ?_; refine ACalls.enter (n := 65) (rs := [.cell 6 94]) Try.func47 rfl rfl rfl (by kernel_rfl) (by kernel_rfl) (by kernel_rfl) (Nat.le_of_ble_eq_true rfl) ?_
    repeat' (first | (refine AWp.quiet (id := 13) (by kernel_rfl) (by kernel_rfl) ?_) | (refine KV.run _ ?_) | (refine KQ.run _ ?_) | (refine KT.run _ ?_) | (refine AWp.seqH fun KC => ?_) | (refine AWp.block ?_) | (refine AWp.region ?_) | (refine mops_step0 rfl rfl fun KC => ?_) | (refine mops_step1 rfl fun KC => ?_) | (refine mops_step2 rfl fun KC => ?_) | (refine AWp.ret ?_) | (refine AWp.skip ?_) | (refine AWp.exit ?_) | (refine aops_callH rfl fun kC => ?_) | (refine qops_callH rfl fun kC => ?_) | (refine AWp.condB ?_) | (simp only [bse, wk, tys, storeH_ptr, Nat.reduceEqDiff, ↓reduceIte, reduceCtorEq, Nat.reduceAdd, Nat.reduceLeDiff, Int.reduceBEq, Int.reduceLT, Int.reduceLE, Int.reduceEq, ne_eq, not_false_eq_true, Nat.reduceMul, quorumE_val, quorumE_sz, quorumResultE_val, quorumResultE_sz, Int.reduceToNat, Int.cast_ofNat_Int, *]) | (refine condK_bool (fun hb => ?_) (fun hb => ?_) <;> ((try simp only [Bool.not_eq_true', Bool.not_eq_false'] at hb) <;> (try (have hbe := of_decide_eq_true hb)) <;> (try (have hbe := eq_of_beq hb)))) | (refine aops_partB ?_) | (refine qops_partB ?_))
    refine AWp.loopH [13, 14, 15, 16, 19, 20, 21, 22, 23, 24, 25, 17, 18, 7] (fun mm e' H' => ∃ k : Nat, k ≤ keys.length ∧ mm = keys.length - k ∧ e' 7 = .int .i64 k ∧ H' = _ ∧ Hid (∀ j (h1 : j < keys.length), j < k → inB keys[j] 1 999 = true)) keys.length ⟨0, by omega, by omega, rfl, rfl, fun j _ h => by omega⟩ ?_
    rintro mm e' H' hA ⟨k, hk, rfl, e7, rfl, heq⟩ hJ
    have a0 := hA 0 rfl; have a1 := hA 1 rfl; have a2 := hA 2 rfl; have a6 := hA 6 rfl; try simp only [bse, wk, tys, storeH_ptr, Nat.reduceEqDiff, ↓reduceIte, reduceCtorEq, Nat.reduceAdd, Nat.reduceLeDiff, Int.reduceBEq, Int.reduceLT, Int.reduceLE, Int.reduceEq, ne_eq, not_false_eq_true, Nat.reduceMul] at a0 a1 a2 a6; clear hA
    by_cases hlt : k < keys.length
    · have hlt' : (k : Int) < (keys.length : Int) := by omega
      have hwk := wr_succ (k := k) (by omega)
      cases hx : inB keys[k] 1 999 with
      | true =>
        repeat' (first | (refine AWp.quiet (id := 13) (by kernel_rfl) (by kernel_rfl) ?_) | (refine ACalls.start ?_; first | (refine ACalls.ofJi (spec_l1Key _) rfl ?_)) | (refine qcall_start ?_; first | (refine qcallFi (spec_l1Key _) rfl ?_ ?_; (focus ((first | exact rfl | (simp [pureV, flatV, quorumE_val, quorumE_sz, quorumResultE_val, quorumResultE_sz, Int.reduceToNat, Int.cast_ofNat_Int]; done)))))) | (refine KV.run _ ?_) | (refine KQ.run _ ?_) | (refine KT.run _ ?_) | (refine AWp.seqH fun KC => ?_) | (refine AWp.block ?_) | (refine AWp.region ?_) | (refine mops_step0 rfl rfl fun KC => ?_) | (refine mops_step1 rfl fun KC => ?_) | (refine mops_step2 rfl fun KC => ?_) | (refine AWp.ret ?_) | (refine AWp.skip ?_) | (refine AWp.exit ?_) | (refine aops_callH rfl fun kC => ?_) | (refine qops_callH rfl fun kC => ?_) | (refine AWp.condB ?_) | (simp only [bse, wk, tys, storeH_ptr, Nat.reduceEqDiff, ↓reduceIte, reduceCtorEq, Nat.reduceAdd, Nat.reduceLeDiff, Int.reduceBEq, Int.reduceLT, Int.reduceLE, Int.reduceEq, ne_eq, not_false_eq_true, Nat.reduceMul, quorumE_val, quorumE_sz, quorumResultE_val, quorumResultE_sz, Int.reduceToNat, Int.cast_ofNat_Int, *]) | (refine condK_bool (fun hb => ?_) (fun hb => ?_) <;> ((try simp only [Bool.not_eq_true', Bool.not_eq_false'] at hb) <;> (try (have hbe := of_decide_eq_true hb)) <;> (try (have hbe := eq_of_beq hb)))) | (refine aops_partB ?_) | (refine qops_partB ?_))
        refine hJ.out _ _ ⟨keys.length - (k + 1), by omega, k + 1, by omega, rfl, rfl, rfl, fun j h1 hj => ?_⟩ (by repeat (first | exact Agree.refl _ _ | assumption | refine Agree.put ?_ rfl _))
        by_cases e : j = k
        · subst e; exact hx
        · exact heq.out j h1 (by omega)
      | false =>
        have hq : Hid (w = errQ 3) := hwH.out.1 (keysB_false hlt hx)
        repeat' (first | (refine AWp.quiet (id := 13) (by kernel_rfl) (by kernel_rfl) ?_) | (refine ACalls.start ?_; first | (refine ACalls.ofJi (spec_l1Key _) rfl ?_)) | (refine qcall_start ?_; first | (refine qcallFi (spec_l1Key _) rfl ?_ ?_; (focus ((first | exact rfl | (simp [pureV, flatV, quorumE_val, quorumE_sz, quorumResultE_val, quorumResultE_sz, Int.reduceToNat, Int.cast_ofNat_Int]; done)))))) | (refine KV.run _ ?_) | (refine KQ.run _ ?_) | (refine KT.run _ ?_) | (refine AWp.seqH fun KC => ?_) | (refine AWp.block ?_) | (refine AWp.region ?_) | (refine mops_step0 rfl rfl fun KC => ?_) | (refine mops_step1 rfl fun KC => ?_) | (refine mops_step2 rfl fun KC => ?_) | (refine AWp.ret ?_) | (refine AWp.skip ?_) | (refine AWp.exit ?_) | (refine aops_callH rfl fun kC => ?_) | (refine qops_callH rfl fun kC => ?_) | (refine AWp.condB ?_) | (simp only [bse, wk, tys, storeH_ptr, Nat.reduceEqDiff, ↓reduceIte, reduceCtorEq, Nat.reduceAdd, Nat.reduceLeDiff, Int.reduceBEq, Int.reduceLT, Int.reduceLE, Int.reduceEq, ne_eq, not_false_eq_true, Nat.reduceMul, quorumE_val, quorumE_sz, quorumResultE_val, quorumResultE_sz, Int.reduceToNat, Int.cast_ofNat_Int, *]) | (refine condK_bool (fun hb => ?_) (fun hb => ?_) <;> ((try simp only [Bool.not_eq_true', Bool.not_eq_false'] at hb) <;> (try (have hbe := of_decide_eq_true hb)) <;> (try (have hbe := eq_of_beq hb)))) | (refine aops_partB ?_) | (refine qops_partB ?_))
        rw [hq.out]
        exact Bor.aggL (.cons (.same _ (.flat _ rfl)) (.cons .nil (.cons (.same _ (.flat _ rfl)) .nil)))
    · have hlt' : ¬ (k : Int) < (keys.length : Int) := by omega
      have hks : keysB keys = true := keysB_true fun j hj => heq.out j hj (by omega)
      have hw2 : Hid ((¬ keys.Nodup → w = errQ 7) ∧ (keys.Nodup → (keys.length : Int) < (m : Int) → w = errQ 4) ∧ (keys.Nodup → ¬ (keys.length : Int) < (m : Int) → w = ⟨0, ⟨chooseL keys seed m, needQ m⟩⟩)) := hwH.out.2 hks
      clear hwH heq hks
      repeat' (first | (refine AWp.quiet (id := 13) (by kernel_rfl) (by kernel_rfl) ?_) | (refine ACalls.start ?_; first | (refine ACalls.ofJi (spec_l10Seed _) rfl ?_) | (refine ACalls.ofJi (spec_l1In _ _ _) rfl ?_)) | (refine qcall_start ?_; first | (refine qcallFi (spec_l10Seed _) rfl ?_ ?_; (focus ((first | exact rfl | (simp [pureV, flatV, quorumE_val, quorumE_sz, quorumResultE_val, quorumResultE_sz, Int.reduceToNat, Int.cast_ofNat_Int]; done))))) | (refine qcallFi (spec_l1In _ _ _) rfl ?_ ?_; (focus ((first | exact rfl | (simp [pureV, flatV, quorumE_val, quorumE_sz, quorumResultE_val, quorumResultE_sz, Int.reduceToNat, Int.cast_ofNat_Int]; done)))))) | (refine KV.run _ ?_) | (refine KQ.run _ ?_) | (refine KT.run _ ?_) | (refine AWp.seqH fun KC => ?_) | (refine AWp.block ?_) | (refine AWp.region ?_) | (refine mops_step0 rfl rfl fun KC => ?_) | (refine mops_step1 rfl fun KC => ?_) | (refine mops_step2 rfl fun KC => ?_) | (refine AWp.ret ?_) | (refine AWp.skip ?_) | (refine AWp.exit ?_) | (refine aops_callH rfl fun kC => ?_) | (refine qops_callH rfl fun kC => ?_) | (refine AWp.condB ?_) | (simp only [bse, wk, tys, storeH_ptr, Nat.reduceEqDiff, ↓reduceIte, reduceCtorEq, Nat.reduceAdd, Nat.reduceLeDiff, Int.reduceBEq, Int.reduceLT, Int.reduceLE, Int.reduceEq, ne_eq, not_false_eq_true, Nat.reduceMul, quorumE_val, quorumE_sz, quorumResultE_val, quorumResultE_sz, Int.reduceToNat, Int.cast_ofNat_Int, *]) | (refine condK_bool (fun hb => ?_) (fun hb => ?_) <;> ((try simp only [Bool.not_eq_true', Bool.not_eq_false'] at hb) <;> (try (have hbe := of_decide_eq_true hb)) <;> (try (have hbe := eq_of_beq hb)))) | (refine aops_partB ?_) | (refine qops_partB ?_))
      refine AWp.loopH [35, 36, 37, 38, 41, 42, 43, 44, 45, 46, 47, 48, 49, 39, 40, 8] (fun mm e' H' => ∃ k : Nat, k ≤ keys.length ∧ mm = keys.length - k ∧ e' 8 = .int .i64 k ∧ H' = _ ∧ Hid ((keys.take k).Nodup)) keys.length ⟨0, by omega, by omega, rfl, rfl, List.Pairwise.nil⟩ ?_
      rintro mm e' H' hA ⟨k, hk, rfl, e8, rfl, hnd⟩ hJ2
      have a0 := hA 0 rfl; have a1 := hA 1 rfl; have a2 := hA 2 rfl; have a6 := hA 6 rfl; try simp only [bse, wk, tys, storeH_ptr, Nat.reduceEqDiff, ↓reduceIte, reduceCtorEq, Nat.reduceAdd, Nat.reduceLeDiff, Int.reduceBEq, Int.reduceLT, Int.reduceLE, Int.reduceEq, ne_eq, not_false_eq_true, Nat.reduceMul] at a0 a1 a2 a6; clear hA
      by_cases hlt2 : k < keys.length
      · have hlt2' : (k : Int) < (keys.length : Int) := by omega
        have hwk := wr_succ (k := k) (by omega)
        have hpa := spec_l4Among (keys.take k) keys[k] (by simp; omega)
        rw [any_mem_int] at hpa
        have hnx := nodup_next hlt2
        by_cases hm : keys[k] ∈ keys.take k
        · have hq : Hid (w = errQ 7) := hw2.out.1 fun h => (hnx.1 (nodup_take h _)).2 hm
          simp only [hm, decide_true] at hpa
          clear hnx hm
          repeat' (first | (refine AWp.quiet (id := 13) (by kernel_rfl) (by kernel_rfl) ?_) | (refine ACalls.start ?_; first | (refine ACalls.ofJi (hpa) rfl ?_)) | (refine qcall_start ?_; first | (refine qcallFi (hpa) rfl ?_ ?_; (focus ((first | exact rfl | (simp [pureV, flatV, quorumE_val, quorumE_sz, quorumResultE_val, quorumResultE_sz, Int.reduceToNat, Int.cast_ofNat_Int]; done)))))) | (refine KV.run _ ?_) | (refine KQ.run _ ?_) | (refine KT.run _ ?_) | (refine AWp.seqH fun KC => ?_) | (refine AWp.block ?_) | (refine AWp.region ?_) | (refine mops_step0 rfl rfl fun KC => ?_) | (refine mops_step1 rfl fun KC => ?_) | (refine mops_step2 rfl fun KC => ?_) | (refine AWp.ret ?_) | (refine AWp.skip ?_) | (refine AWp.exit ?_) | (refine aops_callH rfl fun kC => ?_) | (refine qops_callH rfl fun kC => ?_) | (refine AWp.condB ?_) | (simp only [bse, wk, tys, storeH_ptr, Nat.reduceEqDiff, ↓reduceIte, reduceCtorEq, Nat.reduceAdd, Nat.reduceLeDiff, Int.reduceBEq, Int.reduceLT, Int.reduceLE, Int.reduceEq, ne_eq, not_false_eq_true, Nat.reduceMul, quorumE_val, quorumE_sz, quorumResultE_val, quorumResultE_sz, Int.reduceToNat, Int.cast_ofNat_Int, *]) | (refine condK_bool (fun hb => ?_) (fun hb => ?_) <;> ((try simp only [Bool.not_eq_true', Bool.not_eq_false'] at hb) <;> (try (have hbe := of_decide_eq_true hb)) <;> (try (have hbe := eq_of_beq hb)))) | (refine aops_partB ?_) | (refine qops_partB ?_))
          rw [hq.out]
          exact Bor.aggL (.cons (.same _ (.flat _ rfl)) (.cons .nil (.cons (.same _ (.flat _ rfl)) .nil)))
        · have h1 : Hid ((keys.take (k + 1)).Nodup) := hnx.2 ⟨hnd.out, hm⟩
          simp only [hm, decide_false] at hpa
          clear hnx hm
          repeat' (first | (refine AWp.quiet (id := 13) (by kernel_rfl) (by kernel_rfl) ?_) | (refine ACalls.start ?_; first | (refine ACalls.ofJi (hpa) rfl ?_)) | (refine qcall_start ?_; first | (refine qcallFi (hpa) rfl ?_ ?_; (focus ((first | exact rfl | (simp [pureV, flatV, quorumE_val, quorumE_sz, quorumResultE_val, quorumResultE_sz, Int.reduceToNat, Int.cast_ofNat_Int]; done)))))) | (refine KV.run _ ?_) | (refine KQ.run _ ?_) | (refine KT.run _ ?_) | (refine AWp.seqH fun KC => ?_) | (refine AWp.block ?_) | (refine AWp.region ?_) | (refine mops_step0 rfl rfl fun KC => ?_) | (refine mops_step1 rfl fun KC => ?_) | (refine mops_step2 rfl fun KC => ?_) | (refine AWp.ret ?_) | (refine AWp.skip ?_) | (refine AWp.exit ?_) | (refine aops_callH rfl fun kC => ?_) | (refine qops_callH rfl fun kC => ?_) | (refine AWp.condB ?_) | (simp only [bse, wk, tys, storeH_ptr, Nat.reduceEqDiff, ↓reduceIte, reduceCtorEq, Nat.reduceAdd, Nat.reduceLeDiff, Int.reduceBEq, Int.reduceLT, Int.reduceLE, Int.reduceEq, ne_eq, not_false_eq_true, Nat.reduceMul, quorumE_val, quorumE_sz, quorumResultE_val, quorumResultE_sz, Int.reduceToNat, Int.cast_ofNat_Int, *]) | (refine condK_bool (fun hb => ?_) (fun hb => ?_) <;> ((try simp only [Bool.not_eq_true', Bool.not_eq_false'] at hb) <;> (try (have hbe := of_decide_eq_true hb)) <;> (try (have hbe := eq_of_beq hb)))) | (refine aops_partB ?_) | (refine qops_partB ?_))
          exact hJ2.out _ _ ⟨keys.length - (k + 1), by omega, k + 1, by omega, rfl, rfl, rfl, h1⟩ (by repeat (first | exact Agree.refl _ _ | assumption | refine Agree.put ?_ rfl _))
      · have hlt2' : ¬ (k : Int) < (keys.length : Int) := by omega
        have hndk : keys.Nodup := by have := hnd.out; rwa [List.take_of_length_le (by omega)] at this
        by_cases hln : (keys.length : Int) < (m : Int)
        · have hq : Hid (w = errQ 4) := hw2.out.2.1 hndk hln
          clear hw2 hnd hndk
          repeat' (first | (refine AWp.quiet (id := 13) (by kernel_rfl) (by kernel_rfl) ?_) | (refine KV.run _ ?_) | (refine KQ.run _ ?_) | (refine KT.run _ ?_) | (refine AWp.seqH fun KC => ?_) | (refine AWp.block ?_) | (refine AWp.region ?_) | (refine mops_step0 rfl rfl fun KC => ?_) | (refine mops_step1 rfl fun KC => ?_) | (refine mops_step2 rfl fun KC => ?_) | (refine AWp.ret ?_) | (refine AWp.skip ?_) | (refine AWp.exit ?_) | (refine aops_callH rfl fun kC => ?_) | (refine qops_callH rfl fun kC => ?_) | (refine AWp.condB ?_) | (simp only [bse, wk, tys, storeH_ptr, Nat.reduceEqDiff, ↓reduceIte, reduceCtorEq, Nat.reduceAdd, Nat.reduceLeDiff, Int.reduceBEq, Int.reduceLT, Int.reduceLE, Int.reduceEq, ne_eq, not_false_eq_true, Nat.reduceMul, quorumE_val, quorumE_sz, quorumResultE_val, quorumResultE_sz, Int.reduceToNat, Int.cast_ofNat_Int, *]) | (refine condK_bool (fun hb => ?_) (fun hb => ?_) <;> ((try simp only [Bool.not_eq_true', Bool.not_eq_false'] at hb) <;> (try (have hbe := of_decide_eq_true hb)) <;> (try (have hbe := eq_of_beq hb)))) | (refine aops_partB ?_) | (refine qops_partB ?_))
          rw [hq.out]
          exact Bor.aggL (.cons (.same _ (.flat _ rfl)) (.cons .nil (.cons (.same _ (.flat _ rfl)) .nil)))
        · have hq : Hid (w = ⟨0, ⟨chooseL keys seed m, needQ m⟩⟩) := hw2.out.2.2 hndk hln
          have hch := spec_l10Choose keys seed m (by omega)
          have w1 : IntKind.i64.wrap (2 * (m : Int)) = 2 * (m : Int) := by rw [wr] <;> omega
          have w2 : (2 * (m : Int)).tdiv 3 = ((2 * m / 3 : Nat) : Int) := tdiv_nat (2 * m) 3
          have w3 : IntKind.i64.wrap (((2 * m / 3 : Nat) : Int)) = ((2 * m / 3 : Nat) : Int) := by rw [wr] <;> omega
          have w4 : IntKind.i64.wrap (((2 * m / 3 : Nat) : Int) + 1) = ((2 * m / 3 : Nat) : Int) + 1 := by rw [wr] <;> omega
          have w5 : Hid (needQ m = ((2 * m / 3 : Nat) : Int) + 1) := by unfold Hid needQ; rw [Int.mul_comm, w2]
          generalize chooseL keys seed m = zs at hq hch
          clear hw2 hnd hndk
          repeat' (first | (refine AWp.quiet (id := 13) (by kernel_rfl) (by kernel_rfl) ?_) | (refine ACalls.start ?_; first | (refine ACalls.ofJi (hch) rfl ?_)) | (refine qcall_start ?_; first | (refine qcallFi (hch) rfl ?_ ?_; (focus ((first | exact rfl | (simp [pureV, flatV, quorumE_val, quorumE_sz, quorumResultE_val, quorumResultE_sz, Int.reduceToNat, Int.cast_ofNat_Int]; done)))))) | (refine KV.run _ ?_) | (refine KQ.run _ ?_) | (refine KT.run _ ?_) | (refine AWp.seqH fun KC => ?_) | (refine AWp.block ?_) | (refine AWp.region ?_) | (refine mops_step0 rfl rfl fun KC => ?_) | (refine mops_step1 rfl fun KC => ?_) | (refine mops_step2 rfl fun KC => ?_) | (refine AWp.ret ?_) | (refine AWp.skip ?_) | (refine AWp.exit ?_) | (refine aops_callH rfl fun kC => ?_) | (refine qops_callH rfl fun kC => ?_) | (refine AWp.condB ?_) | (simp only [bse, wk, tys, storeH_ptr, Nat.reduceEqDiff, ↓reduceIte, reduceCtorEq, Nat.reduceAdd, Nat.reduceLeDiff, Int.reduceBEq, Int.reduceLT, Int.reduceLE, Int.reduceEq, ne_eq, not_false_eq_true, Nat.reduceMul, quorumE_val, quorumE_sz, quorumResultE_val, quorumResultE_sz, Int.reduceToNat, Int.cast_ofNat_Int, *]) | (refine condK_bool (fun hb => ?_) (fun hb => ?_) <;> ((try simp only [Bool.not_eq_true', Bool.not_eq_false'] at hb) <;> (try (have hbe := of_decide_eq_true hb)) <;> (try (have hbe := eq_of_beq hb)))) | (refine aops_partB ?_) | (refine qops_partB ?_))
          rw [hq.out, w5.out]
          exact Bor.aggL (.cons (.same _ (.flat _ rfl)) (.cons (.same _ (islE_im _ _)) (.cons (.same _ (.flat _ rfl)) .nil)))
  · have hqb : (inB seed 0 65535 && inB n 1 8) = false := by
      cases h1 : inB seed 0 65535 <;> cases h2 : inB n 1 8 <;> simp [h1, h2] at hq ⊢
    have e : chooseQF keys seed n = errQ 3 := by
      unfold chooseQF
      cases h1 : inB seed 0 65535 <;> cases h2 : inB n 1 8 <;> simp [h1, h2, h8] at hqb ⊢
    rw [e]
    unfold errQ
    clear e hq
    refine PCalls.of ?_; refine ACalls.enter (n := 65) (rs := [.cell 6 94]) Try.func47 rfl rfl rfl (by kernel_rfl) (by kernel_rfl) (by kernel_rfl) (Nat.le_of_ble_eq_true rfl) ?_
    repeat' (first | (refine AWp.quiet (id := 13) (by kernel_rfl) (by kernel_rfl) ?_) | (refine KV.run _ ?_) | (refine KQ.run _ ?_) | (refine KT.run _ ?_) | (refine AWp.seqH fun KC => ?_) | (refine AWp.block ?_) | (refine AWp.region ?_) | (refine mops_step0 rfl rfl fun KC => ?_) | (refine mops_step1 rfl fun KC => ?_) | (refine mops_step2 rfl fun KC => ?_) | (refine AWp.ret ?_) | (refine AWp.skip ?_) | (refine AWp.exit ?_) | (refine aops_callH rfl fun kC => ?_) | (refine qops_callH rfl fun kC => ?_) | (refine AWp.condB ?_) | (simp only [bse, wk, tys, storeH_ptr, Nat.reduceEqDiff, ↓reduceIte, reduceCtorEq, Nat.reduceAdd, Nat.reduceLeDiff, Int.reduceBEq, Int.reduceLT, Int.reduceLE, Int.reduceEq, ne_eq, not_false_eq_true, Nat.reduceMul, quorumE_val, quorumE_sz, quorumResultE_val, quorumResultE_sz, Int.reduceToNat, Int.cast_ofNat_Int, *]) | (refine condK_bool (fun hb => ?_) (fun hb => ?_) <;> ((try simp only [Bool.not_eq_true', Bool.not_eq_false'] at hb) <;> (try (have hbe := of_decide_eq_true hb)) <;> (try (have hbe := eq_of_beq hb)))) | (refine aops_partB ?_) | (refine qops_partB ?_))
    refine AWp.loopH [13, 14, 15, 16, 19, 20, 21, 22, 23, 24, 25, 17, 18, 7] (fun mm e' H' => ∃ k : Nat, k ≤ keys.length ∧ mm = keys.length - k ∧ e' 7 = .int .i64 k ∧ H' = _) keys.length ⟨0, by omega, by omega, rfl, rfl⟩ ?_
    rintro mm e' H' hA ⟨k, hk, rfl, e7, rfl⟩ hJ
    have a0 := hA 0 rfl; have a1 := hA 1 rfl; have a2 := hA 2 rfl; have a6 := hA 6 rfl; try simp only [bse, wk, tys, storeH_ptr, Nat.reduceEqDiff, ↓reduceIte, reduceCtorEq, Nat.reduceAdd, Nat.reduceLeDiff, Int.reduceBEq, Int.reduceLT, Int.reduceLE, Int.reduceEq, ne_eq, not_false_eq_true, Nat.reduceMul] at a0 a1 a2 a6; clear hA
    by_cases hlt : k < keys.length
    · have hlt' : (k : Int) < (keys.length : Int) := by omega
      have hwk := wr_succ (k := k) (by omega)
      cases hx : inB keys[k] 1 999 with
      | true =>
        repeat' (first | (refine AWp.quiet (id := 13) (by kernel_rfl) (by kernel_rfl) ?_) | (refine ACalls.start ?_; first | (refine ACalls.ofJi (spec_l1Key _) rfl ?_)) | (refine qcall_start ?_; first | (refine qcallFi (spec_l1Key _) rfl ?_ ?_; (focus ((first | exact rfl | (simp [pureV, flatV, quorumE_val, quorumE_sz, quorumResultE_val, quorumResultE_sz, Int.reduceToNat, Int.cast_ofNat_Int]; done)))))) | (refine KV.run _ ?_) | (refine KQ.run _ ?_) | (refine KT.run _ ?_) | (refine AWp.seqH fun KC => ?_) | (refine AWp.block ?_) | (refine AWp.region ?_) | (refine mops_step0 rfl rfl fun KC => ?_) | (refine mops_step1 rfl fun KC => ?_) | (refine mops_step2 rfl fun KC => ?_) | (refine AWp.ret ?_) | (refine AWp.skip ?_) | (refine AWp.exit ?_) | (refine aops_callH rfl fun kC => ?_) | (refine qops_callH rfl fun kC => ?_) | (refine AWp.condB ?_) | (simp only [bse, wk, tys, storeH_ptr, Nat.reduceEqDiff, ↓reduceIte, reduceCtorEq, Nat.reduceAdd, Nat.reduceLeDiff, Int.reduceBEq, Int.reduceLT, Int.reduceLE, Int.reduceEq, ne_eq, not_false_eq_true, Nat.reduceMul, quorumE_val, quorumE_sz, quorumResultE_val, quorumResultE_sz, Int.reduceToNat, Int.cast_ofNat_Int, *]) | (refine condK_bool (fun hb => ?_) (fun hb => ?_) <;> ((try simp only [Bool.not_eq_true', Bool.not_eq_false'] at hb) <;> (try (have hbe := of_decide_eq_true hb)) <;> (try (have hbe := eq_of_beq hb)))) | (refine aops_partB ?_) | (refine qops_partB ?_))
        exact hJ.out _ _ ⟨keys.length - (k + 1), by omega, k + 1, by omega, rfl, rfl, rfl⟩ (by repeat (first | exact Agree.refl _ _ | assumption | refine Agree.put ?_ rfl _))
      | false =>
        repeat' (first | (refine AWp.quiet (id := 13) (by kernel_rfl) (by kernel_rfl) ?_) | (refine ACalls.start ?_; first | (refine ACalls.ofJi (spec_l1Key _) rfl ?_)) | (refine qcall_start ?_; first | (refine qcallFi (spec_l1Key _) rfl ?_ ?_; (focus ((first | exact rfl | (simp [pureV, flatV, quorumE_val, quorumE_sz, quorumResultE_val, quorumResultE_sz, Int.reduceToNat, Int.cast_ofNat_Int]; done)))))) | (refine KV.run _ ?_) | (refine KQ.run _ ?_) | (refine KT.run _ ?_) | (refine AWp.seqH fun KC => ?_) | (refine AWp.block ?_) | (refine AWp.region ?_) | (refine mops_step0 rfl rfl fun KC => ?_) | (refine mops_step1 rfl fun KC => ?_) | (refine mops_step2 rfl fun KC => ?_) | (refine AWp.ret ?_) | (refine AWp.skip ?_) | (refine AWp.exit ?_) | (refine aops_callH rfl fun kC => ?_) | (refine qops_callH rfl fun kC => ?_) | (refine AWp.condB ?_) | (simp only [bse, wk, tys, storeH_ptr, Nat.reduceEqDiff, ↓reduceIte, reduceCtorEq, Nat.reduceAdd, Nat.reduceLeDiff, Int.reduceBEq, Int.reduceLT, Int.reduceLE, Int.reduceEq, ne_eq, not_false_eq_true, Nat.reduceMul, quorumE_val, quorumE_sz, quorumResultE_val, quorumResultE_sz, Int.reduceToNat, Int.cast_ofNat_Int, *]) | (refine condK_bool (fun hb => ?_) (fun hb => ?_) <;> ((try simp only [Bool.not_eq_true', Bool.not_eq_false'] at hb) <;> (try (have hbe := of_decide_eq_true hb)) <;> (try (have hbe := eq_of_beq hb)))) | (refine aops_partB ?_) | (refine qops_partB ?_))
        exact Bor.aggL (.cons (.same _ (.flat _ rfl)) (.cons .nil (.cons (.same _ (.flat _ rfl)) .nil)))
    · have hlt' : ¬ (k : Int) < (keys.length : Int) := by omega
      cases h1 : inB seed 0 65535 with
      | false =>
        repeat' (first | (refine AWp.quiet (id := 13) (by kernel_rfl) (by kernel_rfl) ?_) | (refine ACalls.start ?_; first | (refine ACalls.ofJi (spec_l10Seed _) rfl ?_) | (refine ACalls.ofJi (spec_l1In _ _ _) rfl ?_)) | (refine qcall_start ?_; first | (refine qcallFi (spec_l10Seed _) rfl ?_ ?_; (focus ((first | exact rfl | (simp [pureV, flatV, quorumE_val, quorumE_sz, quorumResultE_val, quorumResultE_sz, Int.reduceToNat, Int.cast_ofNat_Int]; done))))) | (refine qcallFi (spec_l1In _ _ _) rfl ?_ ?_; (focus ((first | exact rfl | (simp [pureV, flatV, quorumE_val, quorumE_sz, quorumResultE_val, quorumResultE_sz, Int.reduceToNat, Int.cast_ofNat_Int]; done)))))) | (refine KV.run _ ?_) | (refine KQ.run _ ?_) | (refine KT.run _ ?_) | (refine AWp.seqH fun KC => ?_) | (refine AWp.block ?_) | (refine AWp.region ?_) | (refine mops_step0 rfl rfl fun KC => ?_) | (refine mops_step1 rfl fun KC => ?_) | (refine mops_step2 rfl fun KC => ?_) | (refine AWp.ret ?_) | (refine AWp.skip ?_) | (refine AWp.exit ?_) | (refine aops_callH rfl fun kC => ?_) | (refine qops_callH rfl fun kC => ?_) | (refine AWp.condB ?_) | (simp only [bse, wk, tys, storeH_ptr, Nat.reduceEqDiff, ↓reduceIte, reduceCtorEq, Nat.reduceAdd, Nat.reduceLeDiff, Int.reduceBEq, Int.reduceLT, Int.reduceLE, Int.reduceEq, ne_eq, not_false_eq_true, Nat.reduceMul, quorumE_val, quorumE_sz, quorumResultE_val, quorumResultE_sz, Int.reduceToNat, Int.cast_ofNat_Int, *]) | (refine condK_bool (fun hb => ?_) (fun hb => ?_) <;> ((try simp only [Bool.not_eq_true', Bool.not_eq_false'] at hb) <;> (try (have hbe := of_decide_eq_true hb)) <;> (try (have hbe := eq_of_beq hb)))) | (refine aops_partB ?_) | (refine qops_partB ?_))
        exact Bor.aggL (.cons (.same _ (.flat _ rfl)) (.cons .nil (.cons (.same _ (.flat _ rfl)) .nil)))
      | true =>
        have h2 : inB n 1 8 = false := by rw [h1] at hqb; simpa using hqb
        repeat' (first | (refine AWp.quiet (id := 13) (by kernel_rfl) (by kernel_rfl) ?_) | (refine ACalls.start ?_; first | (refine ACalls.ofJi (spec_l10Seed _) rfl ?_) | (refine ACalls.ofJi (spec_l1In _ _ _) rfl ?_)) | (refine qcall_start ?_; first | (refine qcallFi (spec_l10Seed _) rfl ?_ ?_; (focus ((first | exact rfl | (simp [pureV, flatV, quorumE_val, quorumE_sz, quorumResultE_val, quorumResultE_sz, Int.reduceToNat, Int.cast_ofNat_Int]; done))))) | (refine qcallFi (spec_l1In _ _ _) rfl ?_ ?_; (focus ((first | exact rfl | (simp [pureV, flatV, quorumE_val, quorumE_sz, quorumResultE_val, quorumResultE_sz, Int.reduceToNat, Int.cast_ofNat_Int]; done)))))) | (refine KV.run _ ?_) | (refine KQ.run _ ?_) | (refine KT.run _ ?_) | (refine AWp.seqH fun KC => ?_) | (refine AWp.block ?_) | (refine AWp.region ?_) | (refine mops_step0 rfl rfl fun KC => ?_) | (refine mops_step1 rfl fun KC => ?_) | (refine mops_step2 rfl fun KC => ?_) | (refine AWp.ret ?_) | (refine AWp.skip ?_) | (refine AWp.exit ?_) | (refine aops_callH rfl fun kC => ?_) | (refine qops_callH rfl fun kC => ?_) | (refine AWp.condB ?_) | (simp only [bse, wk, tys, storeH_ptr, Nat.reduceEqDiff, ↓reduceIte, reduceCtorEq, Nat.reduceAdd, Nat.reduceLeDiff, Int.reduceBEq, Int.reduceLT, Int.reduceLE, Int.reduceEq, ne_eq, not_false_eq_true, Nat.reduceMul, quorumE_val, quorumE_sz, quorumResultE_val, quorumResultE_sz, Int.reduceToNat, Int.cast_ofNat_Int, *]) | (refine condK_bool (fun hb => ?_) (fun hb => ?_) <;> ((try simp only [Bool.not_eq_true', Bool.not_eq_false'] at hb) <;> (try (have hbe := of_decide_eq_true hb)) <;> (try (have hbe := eq_of_beq hb)))) | (refine aops_partB ?_) | (refine qops_partB ?_))
        exact Bor.aggL (.cons (.same _ (.flat _ rfl)) (.cons .nil (.cons (.same _ (.flat _ rfl)) .nil)))
theorem nR_ChooseQuorum (keys : List Int) (seed n : Int) (hn : keys.length ≤ 1048576) : nQuorumResult (chooseQF keys seed n) ≤ 1048576 := by
  unfold chooseQF
  have hlen : ∀ (l out : List Int), (l.foldl (chooseStep seed n keys) out).length ≤ out.length + l.length := by
    intro l
    induction l with
    | nil => intro out; simp
    | cons x l ih =>
      intro out
      rw [List.foldl_cons]
      refine Nat.le_trans (ih _) ?_
      unfold chooseStep
      split
      · simp
      · rw [insAsc_len]; simp; omega
  have := hlen keys []
  have h2 : (chooseL keys seed n).length ≤ keys.length := by unfold chooseL foldN; simpa using this
  repeat' split
  all_goals simp [nQuorumResult, nQuorum, errQ]
  omega
  all_goals omega
end Go.BM
