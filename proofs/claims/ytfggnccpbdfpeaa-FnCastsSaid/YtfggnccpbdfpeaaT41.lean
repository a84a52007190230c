/- FnCasts: a voter's votes for blocks are each behind the one ahead. -/
import Derived.Test.YtfggnccpbdfpeaaT18
import Derived.Test.YtfggnccpbdfpeaaT32
import Derived.Test.YtfggnccpbdfpeaaT40
import Derived.Test.YtfggnccpbdfpeaaC34
import Derived.Test.YtfggnccpbdfpeaaC37
set_option linter.unusedVariables false
set_option linter.unusedSimpArgs false
set_option maxRecDepth 100000
set_option maxHeartbeats 4000000
namespace Go.BM
open Go.Proofs Go.RowKit
attribute [local irreducible] ACalls AWp aops qops optK optP cK gateA condK mops qcallK PCalls loadV fldV idxV lenV slV storeH binS
section
variable {xs : List TNode} (R : Right xs)
include R
theorem Right.above_hg {a b : Int} (h : above xs a b = true) : 0 ≤ ndAt xs a ∧ hgt xs a ≤ hgt xs b ∧ (hgt xs a = hgt xs b → a = b) := by
  have hm := (above_mem a b).1 h
  rw [List.mem_reverse] at hm
  have h0 := R.path_in b a hm
  obtain ⟨j, hj, rfl⟩ := List.getElem_of_mem hm
  have e := congrArg List.length (R.path_drop j b hj)
  rw [List.length_drop, R.path_len, R.path_len] at e
  rw [R.path_len] at hj
  refine ⟨h0, by omega, fun e2 => ?_⟩
  have : j = 0 := by omega
  subst this
  have hb : 0 ≤ ndAt xs b := by
    rcases ltge (ndAt xs b) 0 with h' | h'
    · unfold hgt at hj; rw [if_pos h'] at hj; omega
    · exact h'
  have := List.getElem_of_eq (R.path_some hb) (by rw [R.path_len]; exact hj)
  simpa using this
end
theorem casts_facts (xs : List TNode) (v : TVoter) (id : Int) (hz : ((castForF xs v id).code == 0) = true) :
    castForF xs v id = ⟨0, ⟨v.key, 1, id, ⟨0, 0⟩, 0⟩, ⟨v.key, id, v.choices⟩⟩ ∧ (v.last = 0 ∨ isAboveT xs v.last id = true) ∧ voteFault ⟨v.key, 1, id, ⟨0, 0⟩, 0⟩ = 0 ∧ voterFault ⟨v.key, id, v.choices⟩ = 0 ∧
      castForF xs ⟨v.key, id, v.choices⟩ id = ⟨10, ⟨0, 0, 0, ⟨0, 0⟩, 0⟩, ⟨0, 0, []⟩⟩ ∧ (v.last = 0 ∨ castForF xs ⟨v.key, id, v.choices⟩ v.last = ⟨10, ⟨0, 0, 0, ⟨0, 0⟩, 0⟩, ⟨0, 0, []⟩⟩) := by
  unfold castForF at hz
  cases hc : (treeFault xs == 0) with
  | false => rw [hc] at hz; simp at hz; simp [hz] at hc
  | true =>
    rw [hc] at hz
    simp only [if_true] at hz
    cases hf : (voterFault v == 0) with
    | false => rw [hf] at hz; simp at hz; simp [hz] at hf
    | true =>
      rw [hf] at hz
      simp only [if_true] at hz
      have R := Right.of (eq_of_beq hc)
      have hv0 := eq_of_beq hf
      unfold castF at hz
      rcases ltge (ndAt xs id) 0 with h0 | h0
      · simp [h0] at hz
      have h0' : ¬ ndAt xs id < 0 := by omega
      simp only [h0', decide_false, Bool.false_eq_true, if_false] at hz
      cases hq : ((!(v.last == 0) && !above xs v.last id) || v.last == id) with
      | true => rw [hq] at hz; simp at hz
      | false =>
        clear hz
        have hq' := hq
        simp only [Bool.or_eq_false_iff, Bool.and_eq_false_iff, Bool.not_eq_false', beq_iff_eq, beq_eq_false_iff_ne] at hq
        obtain ⟨hq1, hq2⟩ := hq
        obtain ⟨k, hk, e1, e2, _⟩ := ndAt_lt h0
        have hb := R.bounds k hk
        rw [e2] at hb
        have hkey : inB v.key 1 999 = true ∧ inB v.last 0 60 = true ∧ (if decide ((40 : Int) < (v.choices.length : Int)) then 2 else chGo [] v.choices) = 0 := by
          unfold voterFault at hv0
          cases i1 : inB v.key 1 999 <;> cases i2 : inB v.last 0 60 <;> simp [i1, i2] at hv0 ⊢
          exact hv0
        have hid : inB id 0 60 = true ∧ inB id 1 60 = true := by simp [inB]; omega
        have hvf : voterFault ⟨v.key, id, v.choices⟩ = 0 := by
          unfold voterFault
          simp only [hkey.1, hid.1, Bool.not_true, Bool.or_self, Bool.false_eq_true, if_false]
          exact hkey.2.2
        refine ⟨?_, ?_, ?_, hvf, ?_, ?_⟩
        · unfold castForF castF
          simp [hc, hf, h0', hq']
        · rcases hq1 with h | h
          · exact .inl h
          · exact .inr (by unfold isAboveT; rw [hc, h]; rfl)
        · unfold voteFault
          simp [hkey.1, hid.2]
        · unfold castForF castF
          simp [hc, hvf, h0']
        · by_cases hl : v.last = 0
          · exact .inl hl
          · right
            rcases hq1 with h | h
            · exact absurd h hl
            have h1 := R.above_hg h
            have hn : above xs id v.last = false := by
              cases h2 : above xs id v.last with
              | false => rfl
              | true =>
                have h3 := R.above_hg h2
                exact absurd (h1.2.2 (by omega)) hq2
            have hid0 : (id == 0) = false := by rw [beq_eq_false_iff_ne]; omega
            have h4 : ¬ ndAt xs v.last < 0 := by omega
            unfold castForF castF
            simp [hc, hvf, h4, hn, hid0]
theorem law_FnCasts (code : List UInt8) (hl : code.length ≤ 9223372036854775807) : PCalls Try.prog 6 [islE byteE code] (.bool true) := by
  by_cases hbig : (1048576 : Int) < (code.length : Int)
  · refine PCalls.flat rfl ?_; refine ACalls.enter (n := 98) (rs := [.tmp 2]) Try.func6 rfl rfl rfl (by kernel_rfl) (by kernel_rfl) (by kernel_rfl) (Nat.le_of_ble_eq_true rfl) ?_
    repeat' (first | (refine AWp.mixed (id := 6) [(0, 0), (1, 0), (2, 0), (5, 0), (6, 0), (3, 1), (4, 0), (7, 0), (8, 0)] (by kernel_rfl) (by kernel_rfl) ?_) | (refine ACalls.start ?_; first | (refine ACalls.ofJi (laws_lwBig code hl) rfl ?_)) | (refine qcall_start ?_; first | (refine qcallFi (laws_lwBig code hl) rfl ?_ ?_; (focus ((first | exact rfl | (simp [pureV, flatV, srcB_eq, voterE_val, voterE_sz, voteE_val, voteE_sz, refE_val, voterResultE_val, List.append_eq, List.cons_append, List.nil_append]; done)))))) | (refine KV.run _ ?_) | (refine KQ.run _ ?_) | (refine KT.run _ ?_) | (refine AWp.seqH fun KC => ?_) | (refine AWp.block ?_) | (refine AWp.region ?_) | (refine mops_step0 rfl rfl fun KC => ?_) | (refine mops_step1 rfl fun KC => ?_) | (refine mops_step2 rfl fun KC => ?_) | (refine AWp.ret ?_) | (refine AWp.skip ?_) | (refine AWp.exit ?_) | (refine aops_callH rfl fun kC => ?_) | (refine qops_callH rfl fun kC => ?_) | (refine AWp.condB ?_) | (simp only [bse, wk, tys, storeH_ptr, Nat.reduceEqDiff, ↓reduceIte, reduceCtorEq, Nat.reduceAdd, Nat.reduceLeDiff, Int.reduceBEq, Int.reduceLT, Int.reduceLE, Int.reduceEq, ne_eq, not_false_eq_true, Nat.reduceMul, srcB_eq, voterE_val, voterE_sz, voteE_val, voteE_sz, refE_val, voterResultE_val, List.append_eq, List.cons_append, List.nil_append, *]) | (refine condK_bool (fun hb => ?_) (fun hb => ?_) <;> ((try simp only [Bool.not_eq_true', Bool.not_eq_false'] at hb) <;> (try (have hbe := of_decide_eq_true hb)) <;> (try (have hbe := eq_of_beq hb)))) | (refine aops_partB ?_) | (refine qops_partB ?_))
  have hcl : code.length ≤ 1048576 := by omega
  refine PCalls.flat rfl ?_; refine ACalls.enter (n := 98) (rs := [.tmp 2]) Try.func6 rfl rfl rfl (by kernel_rfl) (by kernel_rfl) (by kernel_rfl) (Nat.le_of_ble_eq_true rfl) ?_
  repeat' (first | (refine AWp.mixed (id := 6) [(0, 0), (1, 0), (2, 0), (5, 0), (6, 0), (3, 1), (4, 0), (7, 0), (8, 0)] (by kernel_rfl) (by kernel_rfl) ?_) | (refine ACalls.start ?_; first | (refine ACalls.ofJi (laws_lwBig code hl) rfl ?_)) | (refine qcall_start ?_; first | (refine qcallFi (laws_lwBig code hl) rfl ?_ ?_; (focus ((first | exact rfl | (simp [pureV, flatV, srcB_eq, voterE_val, voterE_sz, voteE_val, voteE_sz, refE_val, voterResultE_val, List.append_eq, List.cons_append, List.nil_append]; done)))))) | (refine KV.run _ ?_) | (refine KQ.run _ ?_) | (refine KT.run _ ?_) | (refine AWp.seqH fun KC => ?_) | (refine AWp.block ?_) | (refine AWp.region ?_) | (refine mops_step0 rfl rfl fun KC => ?_) | (refine mops_step1 rfl fun KC => ?_) | (refine mops_step2 rfl fun KC => ?_) | (refine AWp.ret ?_) | (refine AWp.skip ?_) | (refine AWp.exit ?_) | (refine aops_callH rfl fun kC => ?_) | (refine qops_callH rfl fun kC => ?_) | (refine AWp.condB ?_) | (simp only [bse, wk, tys, storeH_ptr, Nat.reduceEqDiff, ↓reduceIte, reduceCtorEq, Nat.reduceAdd, Nat.reduceLeDiff, Int.reduceBEq, Int.reduceLT, Int.reduceLE, Int.reduceEq, ne_eq, not_false_eq_true, Nat.reduceMul, srcB_eq, voterE_val, voterE_sz, voteE_val, voteE_sz, refE_val, voterResultE_val, List.append_eq, List.cons_append, List.nil_append, *]) | (refine condK_bool (fun hb => ?_) (fun hb => ?_) <;> ((try simp only [Bool.not_eq_true', Bool.not_eq_false'] at hb) <;> (try (have hbe := of_decide_eq_true hb)) <;> (try (have hbe := eq_of_beq hb)))) | (refine aops_partB ?_) | (refine qops_partB ?_))
  refine ACalls.get ((spec_DrawCastFor code hcl).use (by repeat' (first | exact Im.nilL | refine Im.consL ?_ ?_ | refine Im.appL ?_ ?_ | exact Im.flat _ rfl | exact islE_im _ _ | exact Enc.val_im _ _ | assumption | refine Im.aggL ?_ | refine Im.funcL ?_ | refine Im.funcA ?_ | refine Im.isl ?_ | refine Im.ip ?_))) (by first | exact Nat.le_refl _ | exact Nat.zero_le _ | (simp only [List.length_append, List.length_cons, List.length_nil]; omega) | (simp only [List.length_set]; omega) | omega) (by first | exact Nat.le_refl _ | exact Nat.zero_le _ | (simp only [List.length_append, List.length_cons, List.length_nil]; omega) | (simp only [List.length_set]; omega) | omega) ?_
  rintro _ _ ⟨⟨xs, ⟨key, last, ys⟩, id, rfl, hx, hy⟩, _, rfl⟩
  dsimp only at hy
  have x6 : xs.length ≤ 1048576 := by omega
  have y6 : ∀ k l, nVoter ⟨k, l, ys⟩ ≤ 1048576 := fun k l => by simp [nVoter]; omega
  have hi := (impl_CastFor xs ⟨key, last, ys⟩ id x6 (y6 _ _)).p
  have hs := spec_CastFor xs ⟨key, last, ys⟩ id x6 (y6 _ _)
  cases hz : ((castForF xs ⟨key, last, ys⟩ id).code == 0) with
  | false =>
    generalize castForF xs ⟨key, last, ys⟩ id = r at hi hs hz
    obtain ⟨c, ⟨a1, a2, a3, ⟨a4', a5⟩, a6⟩, ⟨b1, b2, zs⟩⟩ := r
    dsimp only at hz
    simp only [voterResultE_val] at hi hs
    repeat' (first | (refine AWp.mixed (id := 6) [(0, 0), (1, 0), (2, 0), (5, 0), (6, 0), (3, 1), (4, 0), (7, 0), (8, 0)] (by kernel_rfl) (by kernel_rfl) ?_) | (refine ACalls.start ?_; first | (refine ACalls.ofJi (hi) rfl ?_) | (refine ACalls.ofJi (hs) rfl ?_)) | (refine qcall_start ?_; first | (refine qcallFi (hi) rfl ?_ ?_; (focus ((first | exact rfl | (simp [pureV, flatV, srcB_eq, voterE_val, voterE_sz, voteE_val, voteE_sz, refE_val, voterResultE_val, List.append_eq, List.cons_append, List.nil_append]; done))))) | (refine qcallFi (hs) rfl ?_ ?_; (focus ((first | exact rfl | (simp [pureV, flatV, srcB_eq, voterE_val, voterE_sz, voteE_val, voteE_sz, refE_val, voterResultE_val, List.append_eq, List.cons_append, List.nil_append]; done)))))) | (refine KV.run _ ?_) | (refine KQ.run _ ?_) | (refine KT.run _ ?_) | (refine AWp.seqH fun KC => ?_) | (refine AWp.block ?_) | (refine AWp.region ?_) | (refine mops_step0 rfl rfl fun KC => ?_) | (refine mops_step1 rfl fun KC => ?_) | (refine mops_step2 rfl fun KC => ?_) | (refine AWp.ret ?_) | (refine AWp.skip ?_) | (refine AWp.exit ?_) | (refine aops_callH rfl fun kC => ?_) | (refine qops_callH rfl fun kC => ?_) | (refine AWp.condB ?_) | (simp only [bse, wk, tys, storeH_ptr, Nat.reduceEqDiff, ↓reduceIte, reduceCtorEq, Nat.reduceAdd, Nat.reduceLeDiff, Int.reduceBEq, Int.reduceLT, Int.reduceLE, Int.reduceEq, ne_eq, not_false_eq_true, Nat.reduceMul, srcB_eq, voterE_val, voterE_sz, voteE_val, voteE_sz, refE_val, voterResultE_val, List.append_eq, List.cons_append, List.nil_append, *]) | (refine condK_bool (fun hb => ?_) (fun hb => ?_) <;> ((try simp only [Bool.not_eq_true', Bool.not_eq_false'] at hb) <;> (try (have hbe := of_decide_eq_true hb)) <;> (try (have hbe := eq_of_beq hb)))) | (refine aops_partB ?_) | (refine qops_partB ?_))
  | true =>
    obtain ⟨h1, h2, h3, h4, h5, h6⟩ := casts_facts xs ⟨key, last, ys⟩ id hz
    dsimp only at h1 h2 h3 h4 h5 h6
    rw [h1] at hi
    have hv := impl_VoteFault ⟨key, 1, id, ⟨0, 0⟩, 0⟩
    rw [h3] at hv
    have hw := impl_VoterFault ⟨key, id, ys⟩ (by dsimp only; omega)
    rw [h4] at hw
    have h5' := (impl_CastFor xs ⟨key, id, ys⟩ id x6 (y6 _ _)).p
    rw [h5] at h5'
    simp only [voterResultE_val] at hi h5'
    clear hz h1 h3 h4 h5 hs
    by_cases hl0 : last = 0
    · have hl0' : (last == 0) = true := by simp [hl0]
      clear hl0 h2 h6
      repeat' (first | (refine AWp.mixed (id := 6) [(0, 0), (1, 0), (2, 0), (5, 0), (6, 0), (3, 1), (4, 0), (7, 0), (8, 0)] (by kernel_rfl) (by kernel_rfl) ?_) | (refine ACalls.start ?_; first | (refine ACalls.ofJi (hi) rfl ?_) | (refine ACalls.ofJi (hv) rfl ?_) | (refine ACalls.ofJi (hw) rfl ?_) | (refine ACalls.ofJi (h5') rfl ?_)) | (refine qcall_start ?_; first | (refine qcallFi (hi) rfl ?_ ?_; (focus ((first | exact rfl | (simp [pureV, flatV, srcB_eq, voterE_val, voterE_sz, voteE_val, voteE_sz, refE_val, voterResultE_val, List.append_eq, List.cons_append, List.nil_append]; done))))) | (refine qcallFi (hv) rfl ?_ ?_; (focus ((first | exact rfl | (simp [pureV, flatV, srcB_eq, voterE_val, voterE_sz, voteE_val, voteE_sz, refE_val, voterResultE_val, List.append_eq, List.cons_append, List.nil_append]; done))))) | (refine qcallFi (hw) rfl ?_ ?_; (focus ((first | exact rfl | (simp [pureV, flatV, srcB_eq, voterE_val, voterE_sz, voteE_val, voteE_sz, refE_val, voterResultE_val, List.append_eq, List.cons_append, List.nil_append]; done))))) | (refine qcallFi (h5') rfl ?_ ?_; (focus ((first | exact rfl | (simp [pureV, flatV, srcB_eq, voterE_val, voterE_sz, voteE_val, voteE_sz, refE_val, voterResultE_val, List.append_eq, List.cons_append, List.nil_append]; done)))))) | (refine KV.run _ ?_) | (refine KQ.run _ ?_) | (refine KT.run _ ?_) | (refine AWp.seqH fun KC => ?_) | (refine AWp.block ?_) | (refine AWp.region ?_) | (refine mops_step0 rfl rfl fun KC => ?_) | (refine mops_step1 rfl fun KC => ?_) | (refine mops_step2 rfl fun KC => ?_) | (refine AWp.ret ?_) | (refine AWp.skip ?_) | (refine AWp.exit ?_) | (refine aops_callH rfl fun kC => ?_) | (refine qops_callH rfl fun kC => ?_) | (refine AWp.condB ?_) | (simp only [bse, wk, tys, storeH_ptr, Nat.reduceEqDiff, ↓reduceIte, reduceCtorEq, Nat.reduceAdd, Nat.reduceLeDiff, Int.reduceBEq, Int.reduceLT, Int.reduceLE, Int.reduceEq, ne_eq, not_false_eq_true, Nat.reduceMul, srcB_eq, voterE_val, voterE_sz, voteE_val, voteE_sz, refE_val, voterResultE_val, List.append_eq, List.cons_append, List.nil_append, *]) | (refine condK_bool (fun hb => ?_) (fun hb => ?_) <;> ((try simp only [Bool.not_eq_true', Bool.not_eq_false'] at hb) <;> (try (have hbe := of_decide_eq_true hb)) <;> (try (have hbe := eq_of_beq hb)))) | (refine aops_partB ?_) | (refine qops_partB ?_))
    · have hl0' : (last == 0) = false := by simpa using hl0
      have ha := impl_IsAbove xs last id x6
      rw [h2.resolve_left hl0] at ha
      have h6' := (impl_CastFor xs ⟨key, id, ys⟩ last x6 (y6 _ _)).p
      rw [h6.resolve_left hl0] at h6'
      simp only [voterResultE_val] at h6'
      clear hl0 h2 h6
      repeat' (first | (refine AWp.mixed (id := 6) [(0, 0), (1, 0), (2, 0), (5, 0), (6, 0), (3, 1), (4, 0), (7, 0), (8, 0)] (by kernel_rfl) (by kernel_rfl) ?_) | (refine ACalls.start ?_; first | (refine ACalls.ofJi (hi) rfl ?_) | (refine ACalls.ofJi (hv) rfl ?_) | (refine ACalls.ofJi (hw) rfl ?_) | (refine ACalls.ofJi (h5') rfl ?_) | (refine ACalls.ofJi (ha) rfl ?_) | (refine ACalls.ofJi (h6') rfl ?_)) | (refine qcall_start ?_; first | (refine qcallFi (hi) rfl ?_ ?_; (focus ((first | exact rfl | (simp [pureV, flatV, srcB_eq, voterE_val, voterE_sz, voteE_val, voteE_sz, refE_val, voterResultE_val, List.append_eq, List.cons_append, List.nil_append]; done))))) | (refine qcallFi (hv) rfl ?_ ?_; (focus ((first | exact rfl | (simp [pureV, flatV, srcB_eq, voterE_val, voterE_sz, voteE_val, voteE_sz, refE_val, voterResultE_val, List.append_eq, List.cons_append, List.nil_append]; done))))) | (refine qcallFi (hw) rfl ?_ ?_; (focus ((first | exact rfl | (simp [pureV, flatV, srcB_eq, voterE_val, voterE_sz, voteE_val, voteE_sz, refE_val, voterResultE_val, List.append_eq, List.cons_append, List.nil_append]; done))))) | (refine qcallFi (h5') rfl ?_ ?_; (focus ((first | exact rfl | (simp [pureV, flatV, srcB_eq, voterE_val, voterE_sz, voteE_val, voteE_sz, refE_val, voterResultE_val, List.append_eq, List.cons_append, List.nil_append]; done))))) | (refine qcallFi (ha) rfl ?_ ?_; (focus ((first | exact rfl | (simp [pureV, flatV, srcB_eq, voterE_val, voterE_sz, voteE_val, voteE_sz, refE_val, voterResultE_val, List.append_eq, List.cons_append, List.nil_append]; done))))) | (refine qcallFi (h6') rfl ?_ ?_; (focus ((first | exact rfl | (simp [pureV, flatV, srcB_eq, voterE_val, voterE_sz, voteE_val, voteE_sz, refE_val, voterResultE_val, List.append_eq, List.cons_append, List.nil_append]; done)))))) | (refine KV.run _ ?_) | (refine KQ.run _ ?_) | (refine KT.run _ ?_) | (refine AWp.seqH fun KC => ?_) | (refine AWp.block ?_) | (refine AWp.region ?_) | (refine mops_step0 rfl rfl fun KC => ?_) | (refine mops_step1 rfl fun KC => ?_) | (refine mops_step2 rfl fun KC => ?_) | (refine AWp.ret ?_) | (refine AWp.skip ?_) | (refine AWp.exit ?_) | (refine aops_callH rfl fun kC => ?_) | (refine qops_callH rfl fun kC => ?_) | (refine AWp.condB ?_) | (simp only [bse, wk, tys, storeH_ptr, Nat.reduceEqDiff, ↓reduceIte, reduceCtorEq, Nat.reduceAdd, Nat.reduceLeDiff, Int.reduceBEq, Int.reduceLT, Int.reduceLE, Int.reduceEq, ne_eq, not_false_eq_true, Nat.reduceMul, srcB_eq, voterE_val, voterE_sz, voteE_val, voteE_sz, refE_val, voterResultE_val, List.append_eq, List.cons_append, List.nil_append, *]) | (refine condK_bool (fun hb => ?_) (fun hb => ?_) <;> ((try simp only [Bool.not_eq_true', Bool.not_eq_false'] at hb) <;> (try (have hbe := of_decide_eq_true hb)) <;> (try (have hbe := eq_of_beq hb)))) | (refine aops_partB ?_) | (refine qops_partB ?_))
end Go.BM
