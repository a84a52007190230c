/- Draws of voters without a tree, and the draw of ChooseFor. -/
import Derived.Test.YtolecdkkecnkkaaT40
import Derived.Test.YtolecdkkecnkkaaC39
set_option linter.unusedVariables false
set_option linter.unusedSimpArgs false
set_option maxRecDepth 100000
set_option maxHeartbeats 4000000
namespace Go.BM
open Go.Proofs Go.RowKit
attribute [local irreducible] ACalls AWp aops qops optK optP cK gateA condK mops qcallK PCalls loadV fldV idxV lenV slV storeH binS
theorem spec_DrawChooseFor (code : List UInt8) (hcl : code.length ≤ 1048576) : ECalls Try.prog 7 [islE byteE code] (fun v => ∃ (y : TVoter) (r : TRef) (tx : Int), v = .tuple #[voterE.val y, refE.val r, .int .i64 tx] ∧ y.choices.length ≤ 5) := by
  unfold ECalls
  refine ACalls.enter (n := 28) (rs := [.cell 2 26, .cell 3 28, .tmp 4]) Try.func7 rfl rfl rfl (by kernel_rfl) (by kernel_rfl) (by kernel_rfl) (Nat.le_of_ble_eq_true rfl) ?_
  repeat' (first | (refine ACalls.start ?_; first | (refine ACalls.get (spec_l1Source _ code) (by first | exact Nat.le_refl _ | exact Nat.zero_le _ | (simp only [List.length_append, List.length_cons, List.length_nil]; omega) | (simp only [List.length_set]; omega) | omega) (by first | exact Nat.le_refl _ | exact Nat.zero_le _ | (simp only [List.length_append, List.length_cons, List.length_nil]; omega) | (simp only [List.length_set]; omega) | omega) ?_; rintro _ _ ⟨rfl, rfl⟩) | (refine ACalls.get (ACalls.nil1 (E := nodeE) (pre := [_]) (post := []) ((spec_l11Draw [] (by simp)).val rfl (Nat.zero_le _) (by repeat' (first | exact Im.nilL | refine Im.consL ?_ ?_ | refine Im.appL ?_ ?_ | exact Im.flat _ rfl | exact islE_im _ _ | exact Enc.val_im _ _ | assumption | refine Im.aggL ?_ | refine Im.funcL ?_ | refine Im.funcA ?_ | refine Im.isl ?_ | refine Im.ip ?_)) hcl (by omega) (by omega))) (by first | exact Nat.le_refl _ | exact Nat.zero_le _ | (simp only [List.length_append, List.length_cons, List.length_nil]; omega) | (simp only [List.length_set]; omega) | omega) (by first | exact Nat.le_refl _ | exact Nat.zero_le _ | (simp only [List.length_append, List.length_cons, List.length_nil]; omega) | (simp only [List.length_set]; omega) | omega) ?_; rintro _ _ ⟨a1, ⟨⟨yk, yl, ys⟩, rfl, hy⟩, _, ha1, ha2, rfl⟩)) | (refine KV.run _ ?_) | (refine KQ.run _ ?_) | (refine KT.run _ ?_) | (refine AWp.seqH fun KC => ?_) | (refine AWp.block ?_) | (refine AWp.region ?_) | (refine mops_step0 rfl rfl fun KC => ?_) | (refine mops_step1 rfl fun KC => ?_) | (refine mops_step2 rfl fun KC => ?_) | (refine AWp.ret ?_) | (refine AWp.skip ?_) | (refine AWp.exit ?_) | (refine aops_callH rfl fun kC => ?_) | (refine qops_callH rfl fun kC => ?_) | (refine AWp.condB ?_) | (simp only [bse, wk, tys, storeH_ptr, Nat.reduceEqDiff, ↓reduceIte, reduceCtorEq, Nat.reduceAdd, Nat.reduceLeDiff, Int.reduceBEq, Int.reduceLT, Int.reduceLE, Int.reduceEq, ne_eq, not_false_eq_true, Nat.reduceMul, srcB_eq, Int.reduceToNat, Int.cast_ofNat_Int, voterE_val, voterE_sz, choiceE_val, choiceE_sz, refE_val, refE_sz, *]) | (refine condK_bool (fun hb => ?_) (fun hb => ?_) <;> ((try simp only [Bool.not_eq_true', Bool.not_eq_false'] at hb) <;> (try (have hbe := of_decide_eq_true hb)) <;> (try (have hbe := eq_of_beq hb)))) | (refine aops_partB ?_) | (refine qops_partB ?_))
  refine AWp.absE fun e0 he0 => ?_
  have r2 := congrFun he0 2
  have r3 := congrFun he0 3
  have r5 := congrFun he0 5
  have r6 := congrFun he0 6
  try simp only [bse, wk, tys, storeH_ptr, Nat.reduceEqDiff, ↓reduceIte, reduceCtorEq, Nat.reduceAdd, Nat.reduceLeDiff, Int.reduceBEq, Int.reduceLT, Int.reduceLE, Int.reduceEq, ne_eq, not_false_eq_true, Nat.reduceMul, srcB_eq, Int.reduceToNat, Int.cast_ofNat_Int, voterE_val, voterE_sz, choiceE_val, choiceE_sz, refE_val, refE_sz] at r2 r3 r5 r6
  clear he0
  refine AWp.mixedF (id := 3) [2, 0, 1] [] [[], [], [], [2], [3], [], [5], [6], [4, 7], [1, 8], [], [], [10, 11], [9, 12], [], [], [14, 15], [0], [13], [16]] (fun L H' => ∃ a' : Int, a1 ≤ a' ∧ a' ≤ a1 + ((1 * (L 3).toNat + 1 * (L 6).toNat + 1 * (L 9).toNat + 1 * (L 12).toNat + 1 * (L 16).toNat : Nat) : Int) ∧ H'[2]? = some (srcB 96 code a') ∧ (L 17 = true → H'[0]? = some ⟨26, 0, [.int .i64 yk, .int .i64 yl, islE choiceE ys], 0, true⟩) ∧ (L 17 = false → H'[0]? = some ⟨26, 0, [.int .i64 0, .int .i64 0, .slice none 0 0], 0, true⟩) ∧ (L 18 = true → ∃ x y : Int, H'[1]? = some ⟨28, 0, [.int .i64 x, .int .i64 y], 0, true⟩) ∧ (L 18 = false → H'[1]? = some ⟨28, 0, [.int .i64 0, .int .i64 0], 0, true⟩)) (fun i l h v H' => match i with | 0 => v = .agg #[.int .i64 yk, .int .i64 yl, islE choiceE ys] | 1 => v = .pointer (some ⟨2, 0, some 0⟩) | 2 => v = .pointer (some ⟨2, 0, some 0⟩) | 3 => FInt (v) | 4 => FInt (v) | 5 => v = .pointer (some ⟨2, 0, some 0⟩) | 6 => FInt (v) | 7 => FInt (v) | 8 => FInts 2 3 (l) (h) (v) H' | 9 => FInt (v) | 10 => v = .pointer (some ⟨2, 0, some 0⟩) | 11 => FInts 2 4 (l) (h) (v) H' | 12 => FInt (v) | 13 => ∃ x y : Int, v = .agg #[.int .i64 x, .int .i64 y] | 14 => v = .pointer (some ⟨2, 0, some 0⟩) | 15 => FInts 2 4 (l) (h) (v) H' | 16 => FInt (v) | 19 => FInt (v) | _ => True) 20 (by kernel_rfl) (by kernel_rfl) (by simp) ?_ ?_ ?_ ?_
  · intro i l h v H1 H2 hm hp
    split at hp <;> first | exact hp | exact FInts.mono hm hp | exact FStrs.mono hm hp | trivial
  · exact ⟨a1, Int.le_refl _, by simp, rfl, fun h => (by cases h), fun _ => rfl, fun h => (by cases h), fun _ => rfl⟩
  · intro i hi
    have hi' : i = 0 ∨ i = 1 ∨ i = 2 ∨ i = 3 ∨ i = 4 ∨ i = 5 ∨ i = 6 ∨ i = 7 ∨ i = 8 ∨ i = 9 ∨ i = 10 ∨ i = 11 ∨ i = 12 ∨ i = 13 ∨ i = 14 ∨ i = 15 ∨ i = 16 ∨ i = 17 ∨ i = 18 ∨ i = 19 := by omega
    rcases hi' with rfl | rfl | rfl | rfl | rfl | rfl | rfl | rfl | rfl | rfl | rfl | rfl | rfl | rfl | rfl | rfl | rfl | rfl | rfl | rfl
    · intro L lo hi e' H' hS
      have hA := hS.agree
      have hnL := hS.nL
      obtain ⟨a', hb1, hb2, hsrc, hc0, hn0, hc1, hn1⟩ := hS.base
      have a6 := (hA 6 rfl).trans r6
      have g3 := hS.elder 3 _ (by decide) rfl
      have hlen := hS.len
      clear hS hA
      refine stepF rfl fun KC => ?_
      repeat' (first | (refine KV.run _ ?_) | (refine KQ.run _ ?_) | (refine KT.run _ ?_) | (refine AWp.seqH fun KC => ?_) | (refine AWp.block ?_) | (refine AWp.region ?_) | (refine mops_step0 rfl rfl fun KC => ?_) | (refine mops_step1 rfl fun KC => ?_) | (refine mops_step2 rfl fun KC => ?_) | (refine AWp.ret ?_) | (refine AWp.skip ?_) | (refine AWp.exit ?_) | (refine aops_callH rfl fun kC => ?_) | (refine qops_callH rfl fun kC => ?_) | (refine AWp.condB ?_) | (simp only [bse, wk, tys, storeH_ptr, Nat.reduceEqDiff, ↓reduceIte, reduceCtorEq, Nat.reduceAdd, Nat.reduceLeDiff, Int.reduceBEq, Int.reduceLT, Int.reduceLE, Int.reduceEq, ne_eq, not_false_eq_true, Nat.reduceMul, srcB_eq, Int.reduceToNat, Int.cast_ofNat_Int, voterE_val, voterE_sz, choiceE_val, choiceE_sz, refE_val, refE_sz, *]) | (refine condK_bool (fun hb => ?_) (fun hb => ?_) <;> ((try simp only [Bool.not_eq_true', Bool.not_eq_false'] at hb) <;> (try (have hbe := of_decide_eq_true hb)) <;> (try (have hbe := eq_of_beq hb)))) | (refine aops_partB ?_) | (refine qops_partB ?_))
      all_goals refine KZ.run _ ?_
      all_goals exact ⟨⟨_, _, _, rfl, rfl, .inl ⟨rfl, rfl⟩⟩, (by intro q b hq _ hb; first | exact hb | exact get_old hb | (rw [List.getElem?_set_ne (by intro e; subst e; exact hq (by decide))]; exact hb)), ⟨a', hb1, (by simpa [upL] using hb2), (by first | exact hsrc | exact get_old hsrc | (rw [List.getElem?_set_ne (by decide)]; exact hsrc)), (fun h => by have hy := hc0 (by simpa [upL] using h); exact (by first | exact hy | exact get_old hy | (rw [List.getElem?_set_ne (by decide)]; exact hy))), fun h => (by have hy := hn0 (by simpa [upL] using h); exact (by first | exact hy | exact get_old hy | (rw [List.getElem?_set_ne (by decide)]; exact hy))), (fun h => by obtain ⟨x1, x2, hx⟩ := hc1 (by simpa [upL] using h); exact ⟨x1, x2, (by first | exact hx | exact get_old hx | (rw [List.getElem?_set_ne (by decide)]; exact hx))⟩), fun h => (by have hy := hn1 (by simpa [upL] using h); exact (by first | exact hy | exact get_old hy | (rw [List.getElem?_set_ne (by decide)]; exact hy)))⟩, by first | exact Nat.le_refl _ | (simp only [List.length_append]; omega) | (simp only [List.length_set]; exact Nat.le_refl _)⟩
    · intro L lo hi e' H' hS
      have hA := hS.agree
      have hnL := hS.nL
      obtain ⟨a', hb1, hb2, hsrc, hc0, hn0, hc1, hn1⟩ := hS.base
      have a5 := (hA 5 rfl).trans r5
      have hlen := hS.len
      clear hS hA
      refine stepF rfl fun KC => ?_
      repeat' (first | (refine KV.run _ ?_) | (refine KQ.run _ ?_) | (refine KT.run _ ?_) | (refine AWp.seqH fun KC => ?_) | (refine AWp.block ?_) | (refine AWp.region ?_) | (refine mops_step0 rfl rfl fun KC => ?_) | (refine mops_step1 rfl fun KC => ?_) | (refine mops_step2 rfl fun KC => ?_) | (refine AWp.ret ?_) | (refine AWp.skip ?_) | (refine AWp.exit ?_) | (refine aops_callH rfl fun kC => ?_) | (refine qops_callH rfl fun kC => ?_) | (refine AWp.condB ?_) | (simp only [bse, wk, tys, storeH_ptr, Nat.reduceEqDiff, ↓reduceIte, reduceCtorEq, Nat.reduceAdd, Nat.reduceLeDiff, Int.reduceBEq, Int.reduceLT, Int.reduceLE, Int.reduceEq, ne_eq, not_false_eq_true, Nat.reduceMul, srcB_eq, Int.reduceToNat, Int.cast_ofNat_Int, voterE_val, voterE_sz, choiceE_val, choiceE_sz, refE_val, refE_sz, *]) | (refine condK_bool (fun hb => ?_) (fun hb => ?_) <;> ((try simp only [Bool.not_eq_true', Bool.not_eq_false'] at hb) <;> (try (have hbe := of_decide_eq_true hb)) <;> (try (have hbe := eq_of_beq hb)))) | (refine aops_partB ?_) | (refine qops_partB ?_))
      all_goals refine KZ.run _ ?_
      all_goals exact ⟨⟨_, _, _, rfl, rfl, .inl ⟨rfl, rfl⟩⟩, (by intro q b hq _ hb; first | exact hb | exact get_old hb | (rw [List.getElem?_set_ne (by intro e; subst e; exact hq (by decide))]; exact hb)), ⟨a', hb1, (by simpa [upL] using hb2), (by first | exact hsrc | exact get_old hsrc | (rw [List.getElem?_set_ne (by decide)]; exact hsrc)), (fun h => by have hy := hc0 (by simpa [upL] using h); exact (by first | exact hy | exact get_old hy | (rw [List.getElem?_set_ne (by decide)]; exact hy))), fun h => (by have hy := hn0 (by simpa [upL] using h); exact (by first | exact hy | exact get_old hy | (rw [List.getElem?_set_ne (by decide)]; exact hy))), (fun h => by obtain ⟨x1, x2, hx⟩ := hc1 (by simpa [upL] using h); exact ⟨x1, x2, (by first | exact hx | exact get_old hx | (rw [List.getElem?_set_ne (by decide)]; exact hx))⟩), fun h => (by have hy := hn1 (by simpa [upL] using h); exact (by first | exact hy | exact get_old hy | (rw [List.getElem?_set_ne (by decide)]; exact hy)))⟩, by first | exact Nat.le_refl _ | (simp only [List.length_append]; omega) | (simp only [List.length_set]; exact Nat.le_refl _)⟩
    · intro L lo hi e' H' hS
      have hA := hS.agree
      have hnL := hS.nL
      obtain ⟨a', hb1, hb2, hsrc, hc0, hn0, hc1, hn1⟩ := hS.base
      have a5 := (hA 5 rfl).trans r5
      have hlen := hS.len
      clear hS hA
      refine stepF rfl fun KC => ?_
      repeat' (first | (refine KV.run _ ?_) | (refine KQ.run _ ?_) | (refine KT.run _ ?_) | (refine AWp.seqH fun KC => ?_) | (refine AWp.block ?_) | (refine AWp.region ?_) | (refine mops_step0 rfl rfl fun KC => ?_) | (refine mops_step1 rfl fun KC => ?_) | (refine mops_step2 rfl fun KC => ?_) | (refine AWp.ret ?_) | (refine AWp.skip ?_) | (refine AWp.exit ?_) | (refine aops_callH rfl fun kC => ?_) | (refine qops_callH rfl fun kC => ?_) | (refine AWp.condB ?_) | (simp only [bse, wk, tys, storeH_ptr, Nat.reduceEqDiff, ↓reduceIte, reduceCtorEq, Nat.reduceAdd, Nat.reduceLeDiff, Int.reduceBEq, Int.reduceLT, Int.reduceLE, Int.reduceEq, ne_eq, not_false_eq_true, Nat.reduceMul, srcB_eq, Int.reduceToNat, Int.cast_ofNat_Int, voterE_val, voterE_sz, choiceE_val, choiceE_sz, refE_val, refE_sz, *]) | (refine condK_bool (fun hb => ?_) (fun hb => ?_) <;> ((try simp only [Bool.not_eq_true', Bool.not_eq_false'] at hb) <;> (try (have hbe := of_decide_eq_true hb)) <;> (try (have hbe := eq_of_beq hb)))) | (refine aops_partB ?_) | (refine qops_partB ?_))
      all_goals refine KZ.run _ ?_
      all_goals exact ⟨⟨_, _, _, rfl, rfl, .inl ⟨rfl, rfl⟩⟩, (by intro q b hq _ hb; first | exact hb | exact get_old hb | (rw [List.getElem?_set_ne (by intro e; subst e; exact hq (by decide))]; exact hb)), ⟨a', hb1, (by simpa [upL] using hb2), (by first | exact hsrc | exact get_old hsrc | (rw [List.getElem?_set_ne (by decide)]; exact hsrc)), (fun h => by have hy := hc0 (by simpa [upL] using h); exact (by first | exact hy | exact get_old hy | (rw [List.getElem?_set_ne (by decide)]; exact hy))), fun h => (by have hy := hn0 (by simpa [upL] using h); exact (by first | exact hy | exact get_old hy | (rw [List.getElem?_set_ne (by decide)]; exact hy))), (fun h => by obtain ⟨x1, x2, hx⟩ := hc1 (by simpa [upL] using h); exact ⟨x1, x2, (by first | exact hx | exact get_old hx | (rw [List.getElem?_set_ne (by decide)]; exact hx))⟩), fun h => (by have hy := hn1 (by simpa [upL] using h); exact (by first | exact hy | exact get_old hy | (rw [List.getElem?_set_ne (by decide)]; exact hy)))⟩, by first | exact Nat.le_refl _ | (simp only [List.length_append]; omega) | (simp only [List.length_set]; exact Nat.le_refl _)⟩
    · intro L lo hi e' H' hS
      have hA := hS.agree
      have hnL := hS.nL
      obtain ⟨a', hb1, hb2, hsrc, hc0, hn0, hc1, hn1⟩ := hS.base
      have f2 : e' 13 = .pointer (some ⟨2, 0, some 0⟩) := hS.fact 2 (by decide) 13 rfl
      have hb3 : a' ≤ a1 + 5 := by
        have ht : ∀ b : Bool, b.toNat ≤ 1 := fun b => by cases b <;> decide
        have := ht (L 3)
        have := ht (L 6)
        have := ht (L 9)
        have := ht (L 12)
        have := ht (L 16)
        omega
      have hlen := hS.len
      clear hS hA
      refine stepF rfl fun KC => ?_
      repeat' (first | (refine ACalls.start ?_; first | (refine ACalls.get (DCalls.val (spec_l1NextN _ (by decide)) hsrc (Nat.zero_le _) (by repeat' (first | exact Im.nilL | refine Im.consL ?_ ?_ | refine Im.appL ?_ ?_ | exact Im.flat _ rfl | exact islE_im _ _ | exact Enc.val_im _ _ | assumption | refine Im.aggL ?_ | refine Im.funcL ?_ | refine Im.funcA ?_ | refine Im.isl ?_ | refine Im.ip ?_)) hcl (by omega) (by omega)) (by first | exact Nat.le_refl _ | exact Nat.zero_le _ | (simp only [List.length_append, List.length_cons, List.length_nil]; omega) | (simp only [List.length_set]; omega) | omega) (by first | exact Nat.le_refl _ | exact Nat.zero_le _ | (simp only [List.length_append, List.length_cons, List.length_nil]; omega) | (simp only [List.length_set]; omega) | omega) ?_; rintro _ _ ⟨a2, ⟨k, rfl, hk⟩, _, hq1, hq2, rfl⟩)) | (refine KV.run _ ?_) | (refine KQ.run _ ?_) | (refine KT.run _ ?_) | (refine AWp.seqH fun KC => ?_) | (refine AWp.block ?_) | (refine AWp.region ?_) | (refine mops_step0 rfl rfl fun KC => ?_) | (refine mops_step1 rfl fun KC => ?_) | (refine mops_step2 rfl fun KC => ?_) | (refine AWp.ret ?_) | (refine AWp.skip ?_) | (refine AWp.exit ?_) | (refine aops_callH rfl fun kC => ?_) | (refine qops_callH rfl fun kC => ?_) | (refine AWp.condB ?_) | (simp only [bse, wk, tys, storeH_ptr, Nat.reduceEqDiff, ↓reduceIte, reduceCtorEq, Nat.reduceAdd, Nat.reduceLeDiff, Int.reduceBEq, Int.reduceLT, Int.reduceLE, Int.reduceEq, ne_eq, not_false_eq_true, Nat.reduceMul, srcB_eq, Int.reduceToNat, Int.cast_ofNat_Int, voterE_val, voterE_sz, choiceE_val, choiceE_sz, refE_val, refE_sz, *]) | (refine condK_bool (fun hb => ?_) (fun hb => ?_) <;> ((try simp only [Bool.not_eq_true', Bool.not_eq_false'] at hb) <;> (try (have hbe := of_decide_eq_true hb)) <;> (try (have hbe := eq_of_beq hb)))) | (refine aops_partB ?_) | (refine qops_partB ?_))
      all_goals refine KZ.run _ ?_
      all_goals exact ⟨⟨_, _, _, rfl, ⟨_, rfl⟩, .inl ⟨rfl, rfl⟩⟩, (by intro q b hq _ hb; first | exact hb | exact get_old hb | (rw [List.getElem?_set_ne (by intro e; subst e; exact hq (by decide))]; exact hb)), ⟨_, by omega, (by have h9 := hb2; simp [hnL] at h9; simp [upL]; omega), List.getElem?_set_self (lt_of_some hsrc), (fun h => by have hy := hc0 (by simpa [upL] using h); exact (by first | exact hy | exact get_old hy | (rw [List.getElem?_set_ne (by decide)]; exact hy))), fun h => (by have hy := hn0 (by simpa [upL] using h); exact (by first | exact hy | exact get_old hy | (rw [List.getElem?_set_ne (by decide)]; exact hy))), (fun h => by obtain ⟨x1, x2, hx⟩ := hc1 (by simpa [upL] using h); exact ⟨x1, x2, (by first | exact hx | exact get_old hx | (rw [List.getElem?_set_ne (by decide)]; exact hx))⟩), fun h => (by have hy := hn1 (by simpa [upL] using h); exact (by first | exact hy | exact get_old hy | (rw [List.getElem?_set_ne (by decide)]; exact hy)))⟩, by first | exact Nat.le_refl _ | (simp only [List.length_append]; omega) | (simp only [List.length_set]; exact Nat.le_refl _)⟩
    · intro L lo hi e' H' hS
      have hA := hS.agree
      have hnL := hS.nL
      obtain ⟨a', hb1, hb2, hsrc, hc0, hn0, hc1, hn1⟩ := hS.base
      have f3 : FInt (e' 14) := hS.fact 3 (by decide) 14 rfl
      obtain ⟨k3, f3⟩ := f3
      have hlen := hS.len
      clear hS hA
      refine stepF rfl fun KC => ?_
      repeat' (first | (refine KV.run _ ?_) | (refine KQ.run _ ?_) | (refine KT.run _ ?_) | (refine AWp.seqH fun KC => ?_) | (refine AWp.block ?_) | (refine AWp.region ?_) | (refine mops_step0 rfl rfl fun KC => ?_) | (refine mops_step1 rfl fun KC => ?_) | (refine mops_step2 rfl fun KC => ?_) | (refine AWp.ret ?_) | (refine AWp.skip ?_) | (refine AWp.exit ?_) | (refine aops_callH rfl fun kC => ?_) | (refine qops_callH rfl fun kC => ?_) | (refine AWp.condB ?_) | (simp only [bse, wk, tys, storeH_ptr, Nat.reduceEqDiff, ↓reduceIte, reduceCtorEq, Nat.reduceAdd, Nat.reduceLeDiff, Int.reduceBEq, Int.reduceLT, Int.reduceLE, Int.reduceEq, ne_eq, not_false_eq_true, Nat.reduceMul, srcB_eq, Int.reduceToNat, Int.cast_ofNat_Int, voterE_val, voterE_sz, choiceE_val, choiceE_sz, refE_val, refE_sz, *]) | (refine condK_bool (fun hb => ?_) (fun hb => ?_) <;> ((try simp only [Bool.not_eq_true', Bool.not_eq_false'] at hb) <;> (try (have hbe := of_decide_eq_true hb)) <;> (try (have hbe := eq_of_beq hb)))) | (refine aops_partB ?_) | (refine qops_partB ?_))
      all_goals refine KZ.run _ ?_
      all_goals exact ⟨⟨_, _, _, rfl, ⟨_, rfl⟩, .inl ⟨rfl, rfl⟩⟩, (by intro q b hq _ hb; first | exact hb | exact get_old hb | (rw [List.getElem?_set_ne (by intro e; subst e; exact hq (by decide))]; exact hb)), ⟨a', hb1, (by simpa [upL] using hb2), (by first | exact hsrc | exact get_old hsrc | (rw [List.getElem?_set_ne (by decide)]; exact hsrc)), (fun h => by have hy := hc0 (by simpa [upL] using h); exact (by first | exact hy | exact get_old hy | (rw [List.getElem?_set_ne (by decide)]; exact hy))), fun h => (by have hy := hn0 (by simpa [upL] using h); exact (by first | exact hy | exact get_old hy | (rw [List.getElem?_set_ne (by decide)]; exact hy))), (fun h => by obtain ⟨x1, x2, hx⟩ := hc1 (by simpa [upL] using h); exact ⟨x1, x2, (by first | exact hx | exact get_old hx | (rw [List.getElem?_set_ne (by decide)]; exact hx))⟩), fun h => (by have hy := hn1 (by simpa [upL] using h); exact (by first | exact hy | exact get_old hy | (rw [List.getElem?_set_ne (by decide)]; exact hy)))⟩, by first | exact Nat.le_refl _ | (simp only [List.length_append]; omega) | (simp only [List.length_set]; exact Nat.le_refl _)⟩
    · intro L lo hi e' H' hS
      have hA := hS.agree
      have hnL := hS.nL
      obtain ⟨a', hb1, hb2, hsrc, hc0, hn0, hc1, hn1⟩ := hS.base
      have a5 := (hA 5 rfl).trans r5
      have hlen := hS.len
      clear hS hA
      refine stepF rfl fun KC => ?_
      repeat' (first | (refine KV.run _ ?_) | (refine KQ.run _ ?_) | (refine KT.run _ ?_) | (refine AWp.seqH fun KC => ?_) | (refine AWp.block ?_) | (refine AWp.region ?_) | (refine mops_step0 rfl rfl fun KC => ?_) | (refine mops_step1 rfl fun KC => ?_) | (refine mops_step2 rfl fun KC => ?_) | (refine AWp.ret ?_) | (refine AWp.skip ?_) | (refine AWp.exit ?_) | (refine aops_callH rfl fun kC => ?_) | (refine qops_callH rfl fun kC => ?_) | (refine AWp.condB ?_) | (simp only [bse, wk, tys, storeH_ptr, Nat.reduceEqDiff, ↓reduceIte, reduceCtorEq, Nat.reduceAdd, Nat.reduceLeDiff, Int.reduceBEq, Int.reduceLT, Int.reduceLE, Int.reduceEq, ne_eq, not_false_eq_true, Nat.reduceMul, srcB_eq, Int.reduceToNat, Int.cast_ofNat_Int, voterE_val, voterE_sz, choiceE_val, choiceE_sz, refE_val, refE_sz, *]) | (refine condK_bool (fun hb => ?_) (fun hb => ?_) <;> ((try simp only [Bool.not_eq_true', Bool.not_eq_false'] at hb) <;> (try (have hbe := of_decide_eq_true hb)) <;> (try (have hbe := eq_of_beq hb)))) | (refine aops_partB ?_) | (refine qops_partB ?_))
      all_goals refine KZ.run _ ?_
      all_goals exact ⟨⟨_, _, _, rfl, rfl, .inl ⟨rfl, rfl⟩⟩, (by intro q b hq _ hb; first | exact hb | exact get_old hb | (rw [List.getElem?_set_ne (by intro e; subst e; exact hq (by decide))]; exact hb)), ⟨a', hb1, (by simpa [upL] using hb2), (by first | exact hsrc | exact get_old hsrc | (rw [List.getElem?_set_ne (by decide)]; exact hsrc)), (fun h => by have hy := hc0 (by simpa [upL] using h); exact (by first | exact hy | exact get_old hy | (rw [List.getElem?_set_ne (by decide)]; exact hy))), fun h => (by have hy := hn0 (by simpa [upL] using h); exact (by first | exact hy | exact get_old hy | (rw [List.getElem?_set_ne (by decide)]; exact hy))), (fun h => by obtain ⟨x1, x2, hx⟩ := hc1 (by simpa [upL] using h); exact ⟨x1, x2, (by first | exact hx | exact get_old hx | (rw [List.getElem?_set_ne (by decide)]; exact hx))⟩), fun h => (by have hy := hn1 (by simpa [upL] using h); exact (by first | exact hy | exact get_old hy | (rw [List.getElem?_set_ne (by decide)]; exact hy)))⟩, by first | exact Nat.le_refl _ | (simp only [List.length_append]; omega) | (simp only [List.length_set]; exact Nat.le_refl _)⟩
    · intro L lo hi e' H' hS
      have hA := hS.agree
      have hnL := hS.nL
      obtain ⟨a', hb1, hb2, hsrc, hc0, hn0, hc1, hn1⟩ := hS.base
      have f5 : e' 16 = .pointer (some ⟨2, 0, some 0⟩) := hS.fact 5 (by decide) 16 rfl
      have hb3 : a' ≤ a1 + 5 := by
        have ht : ∀ b : Bool, b.toNat ≤ 1 := fun b => by cases b <;> decide
        have := ht (L 3)
        have := ht (L 6)
        have := ht (L 9)
        have := ht (L 12)
        have := ht (L 16)
        omega
      have hlen := hS.len
      clear hS hA
      refine stepF rfl fun KC => ?_
      repeat' (first | (refine ACalls.start ?_; first | (refine ACalls.get (DCalls.val (spec_l1NextN _ (by decide)) hsrc (Nat.zero_le _) (by repeat' (first | exact Im.nilL | refine Im.consL ?_ ?_ | refine Im.appL ?_ ?_ | exact Im.flat _ rfl | exact islE_im _ _ | exact Enc.val_im _ _ | assumption | refine Im.aggL ?_ | refine Im.funcL ?_ | refine Im.funcA ?_ | refine Im.isl ?_ | refine Im.ip ?_)) hcl (by omega) (by omega)) (by first | exact Nat.le_refl _ | exact Nat.zero_le _ | (simp only [List.length_append, List.length_cons, List.length_nil]; omega) | (simp only [List.length_set]; omega) | omega) (by first | exact Nat.le_refl _ | exact Nat.zero_le _ | (simp only [List.length_append, List.length_cons, List.length_nil]; omega) | (simp only [List.length_set]; omega) | omega) ?_; rintro _ _ ⟨a2, ⟨k, rfl, hk⟩, _, hq1, hq2, rfl⟩)) | (refine KV.run _ ?_) | (refine KQ.run _ ?_) | (refine KT.run _ ?_) | (refine AWp.seqH fun KC => ?_) | (refine AWp.block ?_) | (refine AWp.region ?_) | (refine mops_step0 rfl rfl fun KC => ?_) | (refine mops_step1 rfl fun KC => ?_) | (refine mops_step2 rfl fun KC => ?_) | (refine AWp.ret ?_) | (refine AWp.skip ?_) | (refine AWp.exit ?_) | (refine aops_callH rfl fun kC => ?_) | (refine qops_callH rfl fun kC => ?_) | (refine AWp.condB ?_) | (simp only [bse, wk, tys, storeH_ptr, Nat.reduceEqDiff, ↓reduceIte, reduceCtorEq, Nat.reduceAdd, Nat.reduceLeDiff, Int.reduceBEq, Int.reduceLT, Int.reduceLE, Int.reduceEq, ne_eq, not_false_eq_true, Nat.reduceMul, srcB_eq, Int.reduceToNat, Int.cast_ofNat_Int, voterE_val, voterE_sz, choiceE_val, choiceE_sz, refE_val, refE_sz, *]) | (refine condK_bool (fun hb => ?_) (fun hb => ?_) <;> ((try simp only [Bool.not_eq_true', Bool.not_eq_false'] at hb) <;> (try (have hbe := of_decide_eq_true hb)) <;> (try (have hbe := eq_of_beq hb)))) | (refine aops_partB ?_) | (refine qops_partB ?_))
      all_goals refine KZ.run _ ?_
      all_goals exact ⟨⟨_, _, _, rfl, ⟨_, rfl⟩, .inl ⟨rfl, rfl⟩⟩, (by intro q b hq _ hb; first | exact hb | exact get_old hb | (rw [List.getElem?_set_ne (by intro e; subst e; exact hq (by decide))]; exact hb)), ⟨_, by omega, (by have h9 := hb2; simp [hnL] at h9; simp [upL]; omega), List.getElem?_set_self (lt_of_some hsrc), (fun h => by have hy := hc0 (by simpa [upL] using h); exact (by first | exact hy | exact get_old hy | (rw [List.getElem?_set_ne (by decide)]; exact hy))), fun h => (by have hy := hn0 (by simpa [upL] using h); exact (by first | exact hy | exact get_old hy | (rw [List.getElem?_set_ne (by decide)]; exact hy))), (fun h => by obtain ⟨x1, x2, hx⟩ := hc1 (by simpa [upL] using h); exact ⟨x1, x2, (by first | exact hx | exact get_old hx | (rw [List.getElem?_set_ne (by decide)]; exact hx))⟩), fun h => (by have hy := hn1 (by simpa [upL] using h); exact (by first | exact hy | exact get_old hy | (rw [List.getElem?_set_ne (by decide)]; exact hy)))⟩, by first | exact Nat.le_refl _ | (simp only [List.length_append]; omega) | (simp only [List.length_set]; exact Nat.le_refl _)⟩
    · intro L lo hi e' H' hS
      have hA := hS.agree
      have hnL := hS.nL
      obtain ⟨a', hb1, hb2, hsrc, hc0, hn0, hc1, hn1⟩ := hS.base
      have f6 : FInt (e' 17) := hS.fact 6 (by decide) 17 rfl
      obtain ⟨k6, f6⟩ := f6
      have hlen := hS.len
      clear hS hA
      refine stepF rfl fun KC => ?_
      repeat' (first | (refine KV.run _ ?_) | (refine KQ.run _ ?_) | (refine KT.run _ ?_) | (refine AWp.seqH fun KC => ?_) | (refine AWp.block ?_) | (refine AWp.region ?_) | (refine mops_step0 rfl rfl fun KC => ?_) | (refine mops_step1 rfl fun KC => ?_) | (refine mops_step2 rfl fun KC => ?_) | (refine AWp.ret ?_) | (refine AWp.skip ?_) | (refine AWp.exit ?_) | (refine aops_callH rfl fun kC => ?_) | (refine qops_callH rfl fun kC => ?_) | (refine AWp.condB ?_) | (simp only [bse, wk, tys, storeH_ptr, Nat.reduceEqDiff, ↓reduceIte, reduceCtorEq, Nat.reduceAdd, Nat.reduceLeDiff, Int.reduceBEq, Int.reduceLT, Int.reduceLE, Int.reduceEq, ne_eq, not_false_eq_true, Nat.reduceMul, srcB_eq, Int.reduceToNat, Int.cast_ofNat_Int, voterE_val, voterE_sz, choiceE_val, choiceE_sz, refE_val, refE_sz, *]) | (refine condK_bool (fun hb => ?_) (fun hb => ?_) <;> ((try simp only [Bool.not_eq_true', Bool.not_eq_false'] at hb) <;> (try (have hbe := of_decide_eq_true hb)) <;> (try (have hbe := eq_of_beq hb)))) | (refine aops_partB ?_) | (refine qops_partB ?_))
      all_goals refine KZ.run _ ?_
      all_goals exact ⟨⟨_, _, _, rfl, ⟨_, rfl⟩, .inl ⟨rfl, rfl⟩⟩, (by intro q b hq _ hb; first | exact hb | exact get_old hb | (rw [List.getElem?_set_ne (by intro e; subst e; exact hq (by decide))]; exact hb)), ⟨a', hb1, (by simpa [upL] using hb2), (by first | exact hsrc | exact get_old hsrc | (rw [List.getElem?_set_ne (by decide)]; exact hsrc)), (fun h => by have hy := hc0 (by simpa [upL] using h); exact (by first | exact hy | exact get_old hy | (rw [List.getElem?_set_ne (by decide)]; exact hy))), fun h => (by have hy := hn0 (by simpa [upL] using h); exact (by first | exact hy | exact get_old hy | (rw [List.getElem?_set_ne (by decide)]; exact hy))), (fun h => by obtain ⟨x1, x2, hx⟩ := hc1 (by simpa [upL] using h); exact ⟨x1, x2, (by first | exact hx | exact get_old hx | (rw [List.getElem?_set_ne (by decide)]; exact hx))⟩), fun h => (by have hy := hn1 (by simpa [upL] using h); exact (by first | exact hy | exact get_old hy | (rw [List.getElem?_set_ne (by decide)]; exact hy)))⟩, by first | exact Nat.le_refl _ | (simp only [List.length_append]; omega) | (simp only [List.length_set]; exact Nat.le_refl _)⟩
    · intro L lo hi e' H' hS
      have hA := hS.agree
      have hnL := hS.nL
      obtain ⟨a', hb1, hb2, hsrc, hc0, hn0, hc1, hn1⟩ := hS.base
      have f4 : FInt (e' 15) := hS.fact 4 (by decide) 15 rfl
      obtain ⟨k4, f4⟩ := f4
      have f7 : FInt (e' 18) := hS.fact 7 (by decide) 18 rfl
      obtain ⟨k7, f7⟩ := f7
      have hlen := hS.len
      clear hS hA
      refine stepF rfl fun KC => ?_
      repeat' (first | (refine KV.run _ ?_) | (refine KQ.run _ ?_) | (refine KT.run _ ?_) | (refine AWp.seqH fun KC => ?_) | (refine AWp.block ?_) | (refine AWp.region ?_) | (refine mops_step0 rfl rfl fun KC => ?_) | (refine mops_step1 rfl fun KC => ?_) | (refine mops_step2 rfl fun KC => ?_) | (refine AWp.ret ?_) | (refine AWp.skip ?_) | (refine AWp.exit ?_) | (refine aops_callH rfl fun kC => ?_) | (refine qops_callH rfl fun kC => ?_) | (refine AWp.condB ?_) | (simp only [bse, wk, tys, storeH_ptr, Nat.reduceEqDiff, ↓reduceIte, reduceCtorEq, Nat.reduceAdd, Nat.reduceLeDiff, Int.reduceBEq, Int.reduceLT, Int.reduceLE, Int.reduceEq, ne_eq, not_false_eq_true, Nat.reduceMul, srcB_eq, Int.reduceToNat, Int.cast_ofNat_Int, voterE_val, voterE_sz, choiceE_val, choiceE_sz, refE_val, refE_sz, *]) | (refine condK_bool (fun hb => ?_) (fun hb => ?_) <;> ((try simp only [Bool.not_eq_true', Bool.not_eq_false'] at hb) <;> (try (have hbe := of_decide_eq_true hb)) <;> (try (have hbe := eq_of_beq hb)))) | (refine aops_partB ?_) | (refine qops_partB ?_))
      all_goals refine KZ.run _ ?_
      all_goals exact ⟨⟨_, _, _, rfl, ⟨rfl, by simp, [_, _, _], rfl, by rw [get_app0]; rfl⟩, .inl ⟨rfl, rfl⟩⟩, (by intro q b hq _ hb; first | exact hb | exact get_old hb | (rw [List.getElem?_set_ne (by intro e; subst e; exact hq (by decide))]; exact hb)), ⟨a', hb1, (by simpa [upL] using hb2), (by first | exact hsrc | exact get_old hsrc | (rw [List.getElem?_set_ne (by decide)]; exact hsrc)), (fun h => by have hy := hc0 (by simpa [upL] using h); exact (by first | exact hy | exact get_old hy | (rw [List.getElem?_set_ne (by decide)]; exact hy))), fun h => (by have hy := hn0 (by simpa [upL] using h); exact (by first | exact hy | exact get_old hy | (rw [List.getElem?_set_ne (by decide)]; exact hy))), (fun h => by obtain ⟨x1, x2, hx⟩ := hc1 (by simpa [upL] using h); exact ⟨x1, x2, (by first | exact hx | exact get_old hx | (rw [List.getElem?_set_ne (by decide)]; exact hx))⟩), fun h => (by have hy := hn1 (by simpa [upL] using h); exact (by first | exact hy | exact get_old hy | (rw [List.getElem?_set_ne (by decide)]; exact hy)))⟩, by first | exact Nat.le_refl _ | (simp only [List.length_append]; omega) | (simp only [List.length_set]; exact Nat.le_refl _)⟩
    · intro L lo hi e' H' hS
      have hA := hS.agree
      have hnL := hS.nL
      obtain ⟨a', hb1, hb2, hsrc, hc0, hn0, hc1, hn1⟩ := hS.base
      have f1 : e' 12 = .pointer (some ⟨2, 0, some 0⟩) := hS.fact 1 (by decide) 12 rfl
      have f8 : FInts 2 3 (lo 8) (hi 8) (e' 19) H' := hS.fact 8 (by decide) 19 rfl
      obtain ⟨f8, lh8, xs8, xl8, fb8⟩ := f8
      have hd8 := hS.bnd 8 (by decide)
      have hb3 : a' ≤ a1 + 5 := by
        have ht : ∀ b : Bool, b.toNat ≤ 1 := fun b => by cases b <;> decide
        have := ht (L 3)
        have := ht (L 6)
        have := ht (L 9)
        have := ht (L 12)
        have := ht (L 16)
        omega
      have hlen := hS.len
      clear hS hA
      refine stepF rfl fun KC => ?_
      repeat' (first | (refine ACalls.start ?_; first | (refine ACalls.get (spec_l1PickA (r := 2) (q := lo 8) hsrc (Nat.zero_le _) fb8 ⟨xs8, by omega, by omega, xl8.symm, rfl⟩ (by have hd := hd8; simp at hd; omega) hcl (by omega) (by omega)) (by first | exact Nat.le_refl _ | exact Nat.zero_le _ | (simp only [List.length_append, List.length_cons, List.length_nil]; omega) | (simp only [List.length_set]; omega) | omega) (by first | exact Nat.le_refl _ | exact Nat.zero_le _ | (simp only [List.length_append, List.length_cons, List.length_nil]; omega) | (simp only [List.length_set]; omega) | omega) ?_; rintro _ _ ⟨k, a2, rfl, hq1, hq2, rfl⟩)) | (refine KV.run _ ?_) | (refine KQ.run _ ?_) | (refine KT.run _ ?_) | (refine AWp.seqH fun KC => ?_) | (refine AWp.block ?_) | (refine AWp.region ?_) | (refine mops_step0 rfl rfl fun KC => ?_) | (refine mops_step1 rfl fun KC => ?_) | (refine mops_step2 rfl fun KC => ?_) | (refine AWp.ret ?_) | (refine AWp.skip ?_) | (refine AWp.exit ?_) | (refine aops_callH rfl fun kC => ?_) | (refine qops_callH rfl fun kC => ?_) | (refine AWp.condB ?_) | (simp only [bse, wk, tys, storeH_ptr, Nat.reduceEqDiff, ↓reduceIte, reduceCtorEq, Nat.reduceAdd, Nat.reduceLeDiff, Int.reduceBEq, Int.reduceLT, Int.reduceLE, Int.reduceEq, ne_eq, not_false_eq_true, Nat.reduceMul, srcB_eq, Int.reduceToNat, Int.cast_ofNat_Int, voterE_val, voterE_sz, choiceE_val, choiceE_sz, refE_val, refE_sz, *]) | (refine condK_bool (fun hb => ?_) (fun hb => ?_) <;> ((try simp only [Bool.not_eq_true', Bool.not_eq_false'] at hb) <;> (try (have hbe := of_decide_eq_true hb)) <;> (try (have hbe := eq_of_beq hb)))) | (refine aops_partB ?_) | (refine qops_partB ?_))
      all_goals refine KZ.run _ ?_
      all_goals exact ⟨⟨_, _, _, rfl, ⟨_, rfl⟩, .inl ⟨rfl, rfl⟩⟩, (by intro q b hq _ hb; first | exact hb | exact get_old hb | (rw [List.getElem?_set_ne (by intro e; subst e; exact hq (by decide))]; exact hb)), ⟨_, by omega, (by have h9 := hb2; simp [hnL] at h9; simp [upL]; omega), List.getElem?_set_self (lt_of_some hsrc), (fun h => by have hy := hc0 (by simpa [upL] using h); exact (by first | exact hy | exact get_old hy | (rw [List.getElem?_set_ne (by decide)]; exact hy))), fun h => (by have hy := hn0 (by simpa [upL] using h); exact (by first | exact hy | exact get_old hy | (rw [List.getElem?_set_ne (by decide)]; exact hy))), (fun h => by obtain ⟨x1, x2, hx⟩ := hc1 (by simpa [upL] using h); exact ⟨x1, x2, (by first | exact hx | exact get_old hx | (rw [List.getElem?_set_ne (by decide)]; exact hx))⟩), fun h => (by have hy := hn1 (by simpa [upL] using h); exact (by first | exact hy | exact get_old hy | (rw [List.getElem?_set_ne (by decide)]; exact hy)))⟩, by first | exact Nat.le_refl _ | (simp only [List.length_append]; omega) | (simp only [List.length_set]; exact Nat.le_refl _)⟩
    · intro L lo hi e' H' hS
      have hA := hS.agree
      have hnL := hS.nL
      obtain ⟨a', hb1, hb2, hsrc, hc0, hn0, hc1, hn1⟩ := hS.base
      have a5 := (hA 5 rfl).trans r5
      have hlen := hS.len
      clear hS hA
      refine stepF rfl fun KC => ?_
      repeat' (first | (refine KV.run _ ?_) | (refine KQ.run _ ?_) | (refine KT.run _ ?_) | (refine AWp.seqH fun KC => ?_) | (refine AWp.block ?_) | (refine AWp.region ?_) | (refine mops_step0 rfl rfl fun KC => ?_) | (refine mops_step1 rfl fun KC => ?_) | (refine mops_step2 rfl fun KC => ?_) | (refine AWp.ret ?_) | (refine AWp.skip ?_) | (refine AWp.exit ?_) | (refine aops_callH rfl fun kC => ?_) | (refine qops_callH rfl fun kC => ?_) | (refine AWp.condB ?_) | (simp only [bse, wk, tys, storeH_ptr, Nat.reduceEqDiff, ↓reduceIte, reduceCtorEq, Nat.reduceAdd, Nat.reduceLeDiff, Int.reduceBEq, Int.reduceLT, Int.reduceLE, Int.reduceEq, ne_eq, not_false_eq_true, Nat.reduceMul, srcB_eq, Int.reduceToNat, Int.cast_ofNat_Int, voterE_val, voterE_sz, choiceE_val, choiceE_sz, refE_val, refE_sz, *]) | (refine condK_bool (fun hb => ?_) (fun hb => ?_) <;> ((try simp only [Bool.not_eq_true', Bool.not_eq_false'] at hb) <;> (try (have hbe := of_decide_eq_true hb)) <;> (try (have hbe := eq_of_beq hb)))) | (refine aops_partB ?_) | (refine qops_partB ?_))
      all_goals refine KZ.run _ ?_
      all_goals exact ⟨⟨_, _, _, rfl, rfl, .inl ⟨rfl, rfl⟩⟩, (by intro q b hq _ hb; first | exact hb | exact get_old hb | (rw [List.getElem?_set_ne (by intro e; subst e; exact hq (by decide))]; exact hb)), ⟨a', hb1, (by simpa [upL] using hb2), (by first | exact hsrc | exact get_old hsrc | (rw [List.getElem?_set_ne (by decide)]; exact hsrc)), (fun h => by have hy := hc0 (by simpa [upL] using h); exact (by first | exact hy | exact get_old hy | (rw [List.getElem?_set_ne (by decide)]; exact hy))), fun h => (by have hy := hn0 (by simpa [upL] using h); exact (by first | exact hy | exact get_old hy | (rw [List.getElem?_set_ne (by decide)]; exact hy))), (fun h => by obtain ⟨x1, x2, hx⟩ := hc1 (by simpa [upL] using h); exact ⟨x1, x2, (by first | exact hx | exact get_old hx | (rw [List.getElem?_set_ne (by decide)]; exact hx))⟩), fun h => (by have hy := hn1 (by simpa [upL] using h); exact (by first | exact hy | exact get_old hy | (rw [List.getElem?_set_ne (by decide)]; exact hy)))⟩, by first | exact Nat.le_refl _ | (simp only [List.length_append]; omega) | (simp only [List.length_set]; exact Nat.le_refl _)⟩
    · intro L lo hi e' H' hS
      have hA := hS.agree
      have hnL := hS.nL
      obtain ⟨a', hb1, hb2, hsrc, hc0, hn0, hc1, hn1⟩ := hS.base
      have hlen := hS.len
      clear hS hA
      refine stepF rfl fun KC => ?_
      repeat' (first | (refine KV.run _ ?_) | (refine KQ.run _ ?_) | (refine KT.run _ ?_) | (refine AWp.seqH fun KC => ?_) | (refine AWp.block ?_) | (refine AWp.region ?_) | (refine mops_step0 rfl rfl fun KC => ?_) | (refine mops_step1 rfl fun KC => ?_) | (refine mops_step2 rfl fun KC => ?_) | (refine AWp.ret ?_) | (refine AWp.skip ?_) | (refine AWp.exit ?_) | (refine aops_callH rfl fun kC => ?_) | (refine qops_callH rfl fun kC => ?_) | (refine AWp.condB ?_) | (simp only [bse, wk, tys, storeH_ptr, Nat.reduceEqDiff, ↓reduceIte, reduceCtorEq, Nat.reduceAdd, Nat.reduceLeDiff, Int.reduceBEq, Int.reduceLT, Int.reduceLE, Int.reduceEq, ne_eq, not_false_eq_true, Nat.reduceMul, srcB_eq, Int.reduceToNat, Int.cast_ofNat_Int, voterE_val, voterE_sz, choiceE_val, choiceE_sz, refE_val, refE_sz, *]) | (refine condK_bool (fun hb => ?_) (fun hb => ?_) <;> ((try simp only [Bool.not_eq_true', Bool.not_eq_false'] at hb) <;> (try (have hbe := of_decide_eq_true hb)) <;> (try (have hbe := eq_of_beq hb)))) | (refine aops_partB ?_) | (refine qops_partB ?_))
      all_goals refine KZ.run _ ?_
      all_goals exact ⟨⟨_, _, _, rfl, ⟨rfl, by simp, [_, _, _, _], rfl, by rw [get_app0]; rfl⟩, .inl ⟨rfl, rfl⟩⟩, (by intro q b hq _ hb; first | exact hb | exact get_old hb | (rw [List.getElem?_set_ne (by intro e; subst e; exact hq (by decide))]; exact hb)), ⟨a', hb1, (by simpa [upL] using hb2), (by first | exact hsrc | exact get_old hsrc | (rw [List.getElem?_set_ne (by decide)]; exact hsrc)), (fun h => by have hy := hc0 (by simpa [upL] using h); exact (by first | exact hy | exact get_old hy | (rw [List.getElem?_set_ne (by decide)]; exact hy))), fun h => (by have hy := hn0 (by simpa [upL] using h); exact (by first | exact hy | exact get_old hy | (rw [List.getElem?_set_ne (by decide)]; exact hy))), (fun h => by obtain ⟨x1, x2, hx⟩ := hc1 (by simpa [upL] using h); exact ⟨x1, x2, (by first | exact hx | exact get_old hx | (rw [List.getElem?_set_ne (by decide)]; exact hx))⟩), fun h => (by have hy := hn1 (by simpa [upL] using h); exact (by first | exact hy | exact get_old hy | (rw [List.getElem?_set_ne (by decide)]; exact hy)))⟩, by first | exact Nat.le_refl _ | (simp only [List.length_append]; omega) | (simp only [List.length_set]; exact Nat.le_refl _)⟩
    · intro L lo hi e' H' hS
      have hA := hS.agree
      have hnL := hS.nL
      obtain ⟨a', hb1, hb2, hsrc, hc0, hn0, hc1, hn1⟩ := hS.base
      have f10 : e' 21 = .pointer (some ⟨2, 0, some 0⟩) := hS.fact 10 (by decide) 21 rfl
      have f11 : FInts 2 4 (lo 11) (hi 11) (e' 22) H' := hS.fact 11 (by decide) 22 rfl
      obtain ⟨f11, lh11, xs11, xl11, fb11⟩ := f11
      have hd11 := hS.bnd 11 (by decide)
      have hb3 : a' ≤ a1 + 5 := by
        have ht : ∀ b : Bool, b.toNat ≤ 1 := fun b => by cases b <;> decide
        have := ht (L 3)
        have := ht (L 6)
        have := ht (L 9)
        have := ht (L 12)
        have := ht (L 16)
        omega
      have hlen := hS.len
      clear hS hA
      refine stepF rfl fun KC => ?_
      repeat' (first | (refine ACalls.start ?_; first | (refine ACalls.get (spec_l1PickA (r := 2) (q := lo 11) hsrc (Nat.zero_le _) fb11 ⟨xs11, by omega, by omega, xl11.symm, rfl⟩ (by have hd := hd11; simp at hd; omega) hcl (by omega) (by omega)) (by first | exact Nat.le_refl _ | exact Nat.zero_le _ | (simp only [List.length_append, List.length_cons, List.length_nil]; omega) | (simp only [List.length_set]; omega) | omega) (by first | exact Nat.le_refl _ | exact Nat.zero_le _ | (simp only [List.length_append, List.length_cons, List.length_nil]; omega) | (simp only [List.length_set]; omega) | omega) ?_; rintro _ _ ⟨k, a2, rfl, hq1, hq2, rfl⟩)) | (refine KV.run _ ?_) | (refine KQ.run _ ?_) | (refine KT.run _ ?_) | (refine AWp.seqH fun KC => ?_) | (refine AWp.block ?_) | (refine AWp.region ?_) | (refine mops_step0 rfl rfl fun KC => ?_) | (refine mops_step1 rfl fun KC => ?_) | (refine mops_step2 rfl fun KC => ?_) | (refine AWp.ret ?_) | (refine AWp.skip ?_) | (refine AWp.exit ?_) | (refine aops_callH rfl fun kC => ?_) | (refine qops_callH rfl fun kC => ?_) | (refine AWp.condB ?_) | (simp only [bse, wk, tys, storeH_ptr, Nat.reduceEqDiff, ↓reduceIte, reduceCtorEq, Nat.reduceAdd, Nat.reduceLeDiff, Int.reduceBEq, Int.reduceLT, Int.reduceLE, Int.reduceEq, ne_eq, not_false_eq_true, Nat.reduceMul, srcB_eq, Int.reduceToNat, Int.cast_ofNat_Int, voterE_val, voterE_sz, choiceE_val, choiceE_sz, refE_val, refE_sz, *]) | (refine condK_bool (fun hb => ?_) (fun hb => ?_) <;> ((try simp only [Bool.not_eq_true', Bool.not_eq_false'] at hb) <;> (try (have hbe := of_decide_eq_true hb)) <;> (try (have hbe := eq_of_beq hb)))) | (refine aops_partB ?_) | (refine qops_partB ?_))
      all_goals refine KZ.run _ ?_
      all_goals exact ⟨⟨_, _, _, rfl, ⟨_, rfl⟩, .inl ⟨rfl, rfl⟩⟩, (by intro q b hq _ hb; first | exact hb | exact get_old hb | (rw [List.getElem?_set_ne (by intro e; subst e; exact hq (by decide))]; exact hb)), ⟨_, by omega, (by have h9 := hb2; simp [hnL] at h9; simp [upL]; omega), List.getElem?_set_self (lt_of_some hsrc), (fun h => by have hy := hc0 (by simpa [upL] using h); exact (by first | exact hy | exact get_old hy | (rw [List.getElem?_set_ne (by decide)]; exact hy))), fun h => (by have hy := hn0 (by simpa [upL] using h); exact (by first | exact hy | exact get_old hy | (rw [List.getElem?_set_ne (by decide)]; exact hy))), (fun h => by obtain ⟨x1, x2, hx⟩ := hc1 (by simpa [upL] using h); exact ⟨x1, x2, (by first | exact hx | exact get_old hx | (rw [List.getElem?_set_ne (by decide)]; exact hx))⟩), fun h => (by have hy := hn1 (by simpa [upL] using h); exact (by first | exact hy | exact get_old hy | (rw [List.getElem?_set_ne (by decide)]; exact hy)))⟩, by first | exact Nat.le_refl _ | (simp only [List.length_append]; omega) | (simp only [List.length_set]; exact Nat.le_refl _)⟩
    · intro L lo hi e' H' hS
      have hA := hS.agree
      have hnL := hS.nL
      obtain ⟨a', hb1, hb2, hsrc, hc0, hn0, hc1, hn1⟩ := hS.base
      have f9 : FInt (e' 20) := hS.fact 9 (by decide) 20 rfl
      obtain ⟨k9, f9⟩ := f9
      have f12 : FInt (e' 23) := hS.fact 12 (by decide) 23 rfl
      obtain ⟨k12, f12⟩ := f12
      have hlen := hS.len
      clear hS hA
      refine stepF rfl fun KC => ?_
      repeat' (first | (refine KV.run _ ?_) | (refine KQ.run _ ?_) | (refine KT.run _ ?_) | (refine AWp.seqH fun KC => ?_) | (refine AWp.block ?_) | (refine AWp.region ?_) | (refine mops_step0 rfl rfl fun KC => ?_) | (refine mops_step1 rfl fun KC => ?_) | (refine mops_step2 rfl fun KC => ?_) | (refine AWp.ret ?_) | (refine AWp.skip ?_) | (refine AWp.exit ?_) | (refine aops_callH rfl fun kC => ?_) | (refine qops_callH rfl fun kC => ?_) | (refine AWp.condB ?_) | (simp only [bse, wk, tys, storeH_ptr, Nat.reduceEqDiff, ↓reduceIte, reduceCtorEq, Nat.reduceAdd, Nat.reduceLeDiff, Int.reduceBEq, Int.reduceLT, Int.reduceLE, Int.reduceEq, ne_eq, not_false_eq_true, Nat.reduceMul, srcB_eq, Int.reduceToNat, Int.cast_ofNat_Int, voterE_val, voterE_sz, choiceE_val, choiceE_sz, refE_val, refE_sz, *]) | (refine condK_bool (fun hb => ?_) (fun hb => ?_) <;> ((try simp only [Bool.not_eq_true', Bool.not_eq_false'] at hb) <;> (try (have hbe := of_decide_eq_true hb)) <;> (try (have hbe := eq_of_beq hb)))) | (refine aops_partB ?_) | (refine qops_partB ?_))
      all_goals refine KZ.run _ ?_
      all_goals exact ⟨⟨_, _, _, rfl, ⟨_, _, rfl⟩, .inl ⟨rfl, rfl⟩⟩, (by intro q b hq _ hb; first | exact hb | exact get_old hb | (rw [List.getElem?_set_ne (by intro e; subst e; exact hq (by decide))]; exact hb)), ⟨a', hb1, (by simpa [upL] using hb2), (by first | exact hsrc | exact get_old hsrc | (rw [List.getElem?_set_ne (by decide)]; exact hsrc)), (fun h => by have hy := hc0 (by simpa [upL] using h); exact (by first | exact hy | exact get_old hy | (rw [List.getElem?_set_ne (by decide)]; exact hy))), fun h => (by have hy := hn0 (by simpa [upL] using h); exact (by first | exact hy | exact get_old hy | (rw [List.getElem?_set_ne (by decide)]; exact hy))), (fun h => by obtain ⟨x1, x2, hx⟩ := hc1 (by simpa [upL] using h); exact ⟨x1, x2, (by first | exact hx | exact get_old hx | (rw [List.getElem?_set_ne (by decide)]; exact hx))⟩), fun h => (by have hy := hn1 (by simpa [upL] using h); exact (by first | exact hy | exact get_old hy | (rw [List.getElem?_set_ne (by decide)]; exact hy)))⟩, by first | exact Nat.le_refl _ | (simp only [List.length_append]; omega) | (simp only [List.length_set]; exact Nat.le_refl _)⟩
    · intro L lo hi e' H' hS
      have hA := hS.agree
      have hnL := hS.nL
      obtain ⟨a', hb1, hb2, hsrc, hc0, hn0, hc1, hn1⟩ := hS.base
      have a5 := (hA 5 rfl).trans r5
      have hlen := hS.len
      clear hS hA
      refine stepF rfl fun KC => ?_
      repeat' (first | (refine KV.run _ ?_) | (refine KQ.run _ ?_) | (refine KT.run _ ?_) | (refine AWp.seqH fun KC => ?_) | (refine AWp.block ?_) | (refine AWp.region ?_) | (refine mops_step0 rfl rfl fun KC => ?_) | (refine mops_step1 rfl fun KC => ?_) | (refine mops_step2 rfl fun KC => ?_) | (refine AWp.ret ?_) | (refine AWp.skip ?_) | (refine AWp.exit ?_) | (refine aops_callH rfl fun kC => ?_) | (refine qops_callH rfl fun kC => ?_) | (refine AWp.condB ?_) | (simp only [bse, wk, tys, storeH_ptr, Nat.reduceEqDiff, ↓reduceIte, reduceCtorEq, Nat.reduceAdd, Nat.reduceLeDiff, Int.reduceBEq, Int.reduceLT, Int.reduceLE, Int.reduceEq, ne_eq, not_false_eq_true, Nat.reduceMul, srcB_eq, Int.reduceToNat, Int.cast_ofNat_Int, voterE_val, voterE_sz, choiceE_val, choiceE_sz, refE_val, refE_sz, *]) | (refine condK_bool (fun hb => ?_) (fun hb => ?_) <;> ((try simp only [Bool.not_eq_true', Bool.not_eq_false'] at hb) <;> (try (have hbe := of_decide_eq_true hb)) <;> (try (have hbe := eq_of_beq hb)))) | (refine aops_partB ?_) | (refine qops_partB ?_))
      all_goals refine KZ.run _ ?_
      all_goals exact ⟨⟨_, _, _, rfl, rfl, .inl ⟨rfl, rfl⟩⟩, (by intro q b hq _ hb; first | exact hb | exact get_old hb | (rw [List.getElem?_set_ne (by intro e; subst e; exact hq (by decide))]; exact hb)), ⟨a', hb1, (by simpa [upL] using hb2), (by first | exact hsrc | exact get_old hsrc | (rw [List.getElem?_set_ne (by decide)]; exact hsrc)), (fun h => by have hy := hc0 (by simpa [upL] using h); exact (by first | exact hy | exact get_old hy | (rw [List.getElem?_set_ne (by decide)]; exact hy))), fun h => (by have hy := hn0 (by simpa [upL] using h); exact (by first | exact hy | exact get_old hy | (rw [List.getElem?_set_ne (by decide)]; exact hy))), (fun h => by obtain ⟨x1, x2, hx⟩ := hc1 (by simpa [upL] using h); exact ⟨x1, x2, (by first | exact hx | exact get_old hx | (rw [List.getElem?_set_ne (by decide)]; exact hx))⟩), fun h => (by have hy := hn1 (by simpa [upL] using h); exact (by first | exact hy | exact get_old hy | (rw [List.getElem?_set_ne (by decide)]; exact hy)))⟩, by first | exact Nat.le_refl _ | (simp only [List.length_append]; omega) | (simp only [List.length_set]; exact Nat.le_refl _)⟩
    · intro L lo hi e' H' hS
      have hA := hS.agree
      have hnL := hS.nL
      obtain ⟨a', hb1, hb2, hsrc, hc0, hn0, hc1, hn1⟩ := hS.base
      have hlen := hS.len
      clear hS hA
      refine stepF rfl fun KC => ?_
      repeat' (first | (refine KV.run _ ?_) | (refine KQ.run _ ?_) | (refine KT.run _ ?_) | (refine AWp.seqH fun KC => ?_) | (refine AWp.block ?_) | (refine AWp.region ?_) | (refine mops_step0 rfl rfl fun KC => ?_) | (refine mops_step1 rfl fun KC => ?_) | (refine mops_step2 rfl fun KC => ?_) | (refine AWp.ret ?_) | (refine AWp.skip ?_) | (refine AWp.exit ?_) | (refine aops_callH rfl fun kC => ?_) | (refine qops_callH rfl fun kC => ?_) | (refine AWp.condB ?_) | (simp only [bse, wk, tys, storeH_ptr, Nat.reduceEqDiff, ↓reduceIte, reduceCtorEq, Nat.reduceAdd, Nat.reduceLeDiff, Int.reduceBEq, Int.reduceLT, Int.reduceLE, Int.reduceEq, ne_eq, not_false_eq_true, Nat.reduceMul, srcB_eq, Int.reduceToNat, Int.cast_ofNat_Int, voterE_val, voterE_sz, choiceE_val, choiceE_sz, refE_val, refE_sz, *]) | (refine condK_bool (fun hb => ?_) (fun hb => ?_) <;> ((try simp only [Bool.not_eq_true', Bool.not_eq_false'] at hb) <;> (try (have hbe := of_decide_eq_true hb)) <;> (try (have hbe := eq_of_beq hb)))) | (refine aops_partB ?_) | (refine qops_partB ?_))
      all_goals refine KZ.run _ ?_
      all_goals exact ⟨⟨_, _, _, rfl, ⟨rfl, by simp, [_, _, _, _], rfl, by rw [get_app0]; rfl⟩, .inl ⟨rfl, rfl⟩⟩, (by intro q b hq _ hb; first | exact hb | exact get_old hb | (rw [List.getElem?_set_ne (by intro e; subst e; exact hq (by decide))]; exact hb)), ⟨a', hb1, (by simpa [upL] using hb2), (by first | exact hsrc | exact get_old hsrc | (rw [List.getElem?_set_ne (by decide)]; exact hsrc)), (fun h => by have hy := hc0 (by simpa [upL] using h); exact (by first | exact hy | exact get_old hy | (rw [List.getElem?_set_ne (by decide)]; exact hy))), fun h => (by have hy := hn0 (by simpa [upL] using h); exact (by first | exact hy | exact get_old hy | (rw [List.getElem?_set_ne (by decide)]; exact hy))), (fun h => by obtain ⟨x1, x2, hx⟩ := hc1 (by simpa [upL] using h); exact ⟨x1, x2, (by first | exact hx | exact get_old hx | (rw [List.getElem?_set_ne (by decide)]; exact hx))⟩), fun h => (by have hy := hn1 (by simpa [upL] using h); exact (by first | exact hy | exact get_old hy | (rw [List.getElem?_set_ne (by decide)]; exact hy)))⟩, by first | exact Nat.le_refl _ | (simp only [List.length_append]; omega) | (simp only [List.length_set]; exact Nat.le_refl _)⟩
    · intro L lo hi e' H' hS
      have hA := hS.agree
      have hnL := hS.nL
      obtain ⟨a', hb1, hb2, hsrc, hc0, hn0, hc1, hn1⟩ := hS.base
      have f14 : e' 25 = .pointer (some ⟨2, 0, some 0⟩) := hS.fact 14 (by decide) 25 rfl
      have f15 : FInts 2 4 (lo 15) (hi 15) (e' 26) H' := hS.fact 15 (by decide) 26 rfl
      obtain ⟨f15, lh15, xs15, xl15, fb15⟩ := f15
      have hd15 := hS.bnd 15 (by decide)
      have hb3 : a' ≤ a1 + 5 := by
        have ht : ∀ b : Bool, b.toNat ≤ 1 := fun b => by cases b <;> decide
        have := ht (L 3)
        have := ht (L 6)
        have := ht (L 9)
        have := ht (L 12)
        have := ht (L 16)
        omega
      have hlen := hS.len
      clear hS hA
      refine stepF rfl fun KC => ?_
      repeat' (first | (refine ACalls.start ?_; first | (refine ACalls.get (spec_l1PickA (r := 2) (q := lo 15) hsrc (Nat.zero_le _) fb15 ⟨xs15, by omega, by omega, xl15.symm, rfl⟩ (by have hd := hd15; simp at hd; omega) hcl (by omega) (by omega)) (by first | exact Nat.le_refl _ | exact Nat.zero_le _ | (simp only [List.length_append, List.length_cons, List.length_nil]; omega) | (simp only [List.length_set]; omega) | omega) (by first | exact Nat.le_refl _ | exact Nat.zero_le _ | (simp only [List.length_append, List.length_cons, List.length_nil]; omega) | (simp only [List.length_set]; omega) | omega) ?_; rintro _ _ ⟨k, a2, rfl, hq1, hq2, rfl⟩)) | (refine KV.run _ ?_) | (refine KQ.run _ ?_) | (refine KT.run _ ?_) | (refine AWp.seqH fun KC => ?_) | (refine AWp.block ?_) | (refine AWp.region ?_) | (refine mops_step0 rfl rfl fun KC => ?_) | (refine mops_step1 rfl fun KC => ?_) | (refine mops_step2 rfl fun KC => ?_) | (refine AWp.ret ?_) | (refine AWp.skip ?_) | (refine AWp.exit ?_) | (refine aops_callH rfl fun kC => ?_) | (refine qops_callH rfl fun kC => ?_) | (refine AWp.condB ?_) | (simp only [bse, wk, tys, storeH_ptr, Nat.reduceEqDiff, ↓reduceIte, reduceCtorEq, Nat.reduceAdd, Nat.reduceLeDiff, Int.reduceBEq, Int.reduceLT, Int.reduceLE, Int.reduceEq, ne_eq, not_false_eq_true, Nat.reduceMul, srcB_eq, Int.reduceToNat, Int.cast_ofNat_Int, voterE_val, voterE_sz, choiceE_val, choiceE_sz, refE_val, refE_sz, *]) | (refine condK_bool (fun hb => ?_) (fun hb => ?_) <;> ((try simp only [Bool.not_eq_true', Bool.not_eq_false'] at hb) <;> (try (have hbe := of_decide_eq_true hb)) <;> (try (have hbe := eq_of_beq hb)))) | (refine aops_partB ?_) | (refine qops_partB ?_))
      all_goals refine KZ.run _ ?_
      all_goals exact ⟨⟨_, _, _, rfl, ⟨_, rfl⟩, .inl ⟨rfl, rfl⟩⟩, (by intro q b hq _ hb; first | exact hb | exact get_old hb | (rw [List.getElem?_set_ne (by intro e; subst e; exact hq (by decide))]; exact hb)), ⟨_, by omega, (by have h9 := hb2; simp [hnL] at h9; simp [upL]; omega), List.getElem?_set_self (lt_of_some hsrc), (fun h => by have hy := hc0 (by simpa [upL] using h); exact (by first | exact hy | exact get_old hy | (rw [List.getElem?_set_ne (by decide)]; exact hy))), fun h => (by have hy := hn0 (by simpa [upL] using h); exact (by first | exact hy | exact get_old hy | (rw [List.getElem?_set_ne (by decide)]; exact hy))), (fun h => by obtain ⟨x1, x2, hx⟩ := hc1 (by simpa [upL] using h); exact ⟨x1, x2, (by first | exact hx | exact get_old hx | (rw [List.getElem?_set_ne (by decide)]; exact hx))⟩), fun h => (by have hy := hn1 (by simpa [upL] using h); exact (by first | exact hy | exact get_old hy | (rw [List.getElem?_set_ne (by decide)]; exact hy)))⟩, by first | exact Nat.le_refl _ | (simp only [List.length_append]; omega) | (simp only [List.length_set]; exact Nat.le_refl _)⟩
    · intro L lo hi e' H' hS
      have hA := hS.agree
      have hnL := hS.nL
      obtain ⟨a', hb1, hb2, hsrc, hc0, hn0, hc1, hn1⟩ := hS.base
      have a2 := (hA 2 rfl).trans r2
      have f0 : e' 11 = .agg #[.int .i64 yk, .int .i64 yl, islE choiceE ys] := hS.fact 0 (by decide) 11 rfl
      have g0 := hn0 hnL
      have hlen := hS.len
      clear hS hA
      refine stepF rfl fun KC => ?_
      repeat' (first | (refine KV.run _ ?_) | (refine KQ.run _ ?_) | (refine KT.run _ ?_) | (refine AWp.seqH fun KC => ?_) | (refine AWp.block ?_) | (refine AWp.region ?_) | (refine mops_step0 rfl rfl fun KC => ?_) | (refine mops_step1 rfl fun KC => ?_) | (refine mops_step2 rfl fun KC => ?_) | (refine AWp.ret ?_) | (refine AWp.skip ?_) | (refine AWp.exit ?_) | (refine aops_callH rfl fun kC => ?_) | (refine qops_callH rfl fun kC => ?_) | (refine AWp.condB ?_) | (simp only [bse, wk, tys, storeH_ptr, Nat.reduceEqDiff, ↓reduceIte, reduceCtorEq, Nat.reduceAdd, Nat.reduceLeDiff, Int.reduceBEq, Int.reduceLT, Int.reduceLE, Int.reduceEq, ne_eq, not_false_eq_true, Nat.reduceMul, srcB_eq, Int.reduceToNat, Int.cast_ofNat_Int, voterE_val, voterE_sz, choiceE_val, choiceE_sz, refE_val, refE_sz, *]) | (refine condK_bool (fun hb => ?_) (fun hb => ?_) <;> ((try simp only [Bool.not_eq_true', Bool.not_eq_false'] at hb) <;> (try (have hbe := of_decide_eq_true hb)) <;> (try (have hbe := eq_of_beq hb)))) | (refine aops_partB ?_) | (refine qops_partB ?_))
      all_goals refine KZ.run _ ?_
      all_goals exact ⟨⟨undef, _, _, rfl, trivial, .inl ⟨rfl, rfl⟩⟩, (by intro q b hq _ hb; first | exact hb | exact get_old hb | (rw [List.getElem?_set_ne (by intro e; subst e; exact hq (by decide))]; exact hb)), ⟨a', hb1, (by simpa [upL] using hb2), (by first | exact hsrc | exact get_old hsrc | (rw [List.getElem?_set_ne (by decide)]; exact hsrc)), fun _ => List.getElem?_set_self (lt_of_some g0), fun h => (by simp [upL] at h), (fun h => by obtain ⟨x1, x2, hx⟩ := hc1 (by simpa [upL] using h); exact ⟨x1, x2, (by first | exact hx | exact get_old hx | (rw [List.getElem?_set_ne (by decide)]; exact hx))⟩), fun h => (by have hy := hn1 (by simpa [upL] using h); exact (by first | exact hy | exact get_old hy | (rw [List.getElem?_set_ne (by decide)]; exact hy)))⟩, by first | exact Nat.le_refl _ | (simp only [List.length_append]; omega) | (simp only [List.length_set]; exact Nat.le_refl _)⟩
    · intro L lo hi e' H' hS
      have hA := hS.agree
      have hnL := hS.nL
      obtain ⟨a', hb1, hb2, hsrc, hc0, hn0, hc1, hn1⟩ := hS.base
      have a3 := (hA 3 rfl).trans r3
      have f13 : ∃ x y : Int, (e' 24) = .agg #[.int .i64 x, .int .i64 y] := hS.fact 13 (by decide) 24 rfl
      obtain ⟨x13, y13, f13⟩ := f13
      have g1 := hn1 hnL
      have hlen := hS.len
      clear hS hA
      refine stepF rfl fun KC => ?_
      repeat' (first | (refine KV.run _ ?_) | (refine KQ.run _ ?_) | (refine KT.run _ ?_) | (refine AWp.seqH fun KC => ?_) | (refine AWp.block ?_) | (refine AWp.region ?_) | (refine mops_step0 rfl rfl fun KC => ?_) | (refine mops_step1 rfl fun KC => ?_) | (refine mops_step2 rfl fun KC => ?_) | (refine AWp.ret ?_) | (refine AWp.skip ?_) | (refine AWp.exit ?_) | (refine aops_callH rfl fun kC => ?_) | (refine qops_callH rfl fun kC => ?_) | (refine AWp.condB ?_) | (simp only [bse, wk, tys, storeH_ptr, Nat.reduceEqDiff, ↓reduceIte, reduceCtorEq, Nat.reduceAdd, Nat.reduceLeDiff, Int.reduceBEq, Int.reduceLT, Int.reduceLE, Int.reduceEq, ne_eq, not_false_eq_true, Nat.reduceMul, srcB_eq, Int.reduceToNat, Int.cast_ofNat_Int, voterE_val, voterE_sz, choiceE_val, choiceE_sz, refE_val, refE_sz, *]) | (refine condK_bool (fun hb => ?_) (fun hb => ?_) <;> ((try simp only [Bool.not_eq_true', Bool.not_eq_false'] at hb) <;> (try (have hbe := of_decide_eq_true hb)) <;> (try (have hbe := eq_of_beq hb)))) | (refine aops_partB ?_) | (refine qops_partB ?_))
      all_goals refine KZ.run _ ?_
      all_goals exact ⟨⟨undef, _, _, rfl, trivial, .inl ⟨rfl, rfl⟩⟩, (by intro q b hq _ hb; first | exact hb | exact get_old hb | (rw [List.getElem?_set_ne (by intro e; subst e; exact hq (by decide))]; exact hb)), ⟨a', hb1, (by simpa [upL] using hb2), (by first | exact hsrc | exact get_old hsrc | (rw [List.getElem?_set_ne (by decide)]; exact hsrc)), (fun h => by have hy := hc0 (by simpa [upL] using h); exact (by first | exact hy | exact get_old hy | (rw [List.getElem?_set_ne (by decide)]; exact hy))), fun h => (by have hy := hn0 (by simpa [upL] using h); exact (by first | exact hy | exact get_old hy | (rw [List.getElem?_set_ne (by decide)]; exact hy))), fun _ => ⟨_, _, List.getElem?_set_self (lt_of_some g1)⟩, fun h => (by simp [upL] at h)⟩, by first | exact Nat.le_refl _ | (simp only [List.length_append]; omega) | (simp only [List.length_set]; exact Nat.le_refl _)⟩
    · intro L lo hi e' H' hS
      have hA := hS.agree
      have hnL := hS.nL
      obtain ⟨a', hb1, hb2, hsrc, hc0, hn0, hc1, hn1⟩ := hS.base
      have f16 : FInt (e' 27) := hS.fact 16 (by decide) 27 rfl
      obtain ⟨k16, f16⟩ := f16
      have hlen := hS.len
      clear hS hA
      refine stepF rfl fun KC => ?_
      repeat' (first | (refine KV.run _ ?_) | (refine KQ.run _ ?_) | (refine KT.run _ ?_) | (refine AWp.seqH fun KC => ?_) | (refine AWp.block ?_) | (refine AWp.region ?_) | (refine mops_step0 rfl rfl fun KC => ?_) | (refine mops_step1 rfl fun KC => ?_) | (refine mops_step2 rfl fun KC => ?_) | (refine AWp.ret ?_) | (refine AWp.skip ?_) | (refine AWp.exit ?_) | (refine aops_callH rfl fun kC => ?_) | (refine qops_callH rfl fun kC => ?_) | (refine AWp.condB ?_) | (simp only [bse, wk, tys, storeH_ptr, Nat.reduceEqDiff, ↓reduceIte, reduceCtorEq, Nat.reduceAdd, Nat.reduceLeDiff, Int.reduceBEq, Int.reduceLT, Int.reduceLE, Int.reduceEq, ne_eq, not_false_eq_true, Nat.reduceMul, srcB_eq, Int.reduceToNat, Int.cast_ofNat_Int, voterE_val, voterE_sz, choiceE_val, choiceE_sz, refE_val, refE_sz, *]) | (refine condK_bool (fun hb => ?_) (fun hb => ?_) <;> ((try simp only [Bool.not_eq_true', Bool.not_eq_false'] at hb) <;> (try (have hbe := of_decide_eq_true hb)) <;> (try (have hbe := eq_of_beq hb)))) | (refine aops_partB ?_) | (refine qops_partB ?_))
      all_goals refine KZ.run _ ?_
      all_goals exact ⟨⟨_, _, _, rfl, ⟨_, rfl⟩, .inl ⟨rfl, rfl⟩⟩, (by intro q b hq _ hb; first | exact hb | exact get_old hb | (rw [List.getElem?_set_ne (by intro e; subst e; exact hq (by decide))]; exact hb)), ⟨a', hb1, (by simpa [upL] using hb2), (by first | exact hsrc | exact get_old hsrc | (rw [List.getElem?_set_ne (by decide)]; exact hsrc)), (fun h => by have hy := hc0 (by simpa [upL] using h); exact (by first | exact hy | exact get_old hy | (rw [List.getElem?_set_ne (by decide)]; exact hy))), fun h => (by have hy := hn0 (by simpa [upL] using h); exact (by first | exact hy | exact get_old hy | (rw [List.getElem?_set_ne (by decide)]; exact hy))), (fun h => by obtain ⟨x1, x2, hx⟩ := hc1 (by simpa [upL] using h); exact ⟨x1, x2, (by first | exact hx | exact get_old hx | (rw [List.getElem?_set_ne (by decide)]; exact hx))⟩), fun h => (by have hy := hn1 (by simpa [upL] using h); exact (by first | exact hy | exact get_old hy | (rw [List.getElem?_set_ne (by decide)]; exact hy)))⟩, by first | exact Nat.le_refl _ | (simp only [List.length_append]; omega) | (simp only [List.length_set]; exact Nat.le_refl _)⟩
  · intro lo hi e' H' hE
    obtain ⟨L, hall, a', hb1, hb2, hsrc, hc0, hn0, hc1, hn1⟩ := hE.base
    replace hc0 := hc0 (hall 17 (by decide))
    clear hn0
    replace hc1 := hc1 (hall 18 (by decide))
    clear hn1
    have hb3 : a' ≤ a1 + 5 := by
      have ht : ∀ b : Bool, b.toNat ≤ 1 := fun b => by cases b <;> decide
      have := ht (L 3)
      have := ht (L 6)
      have := ht (L 9)
      have := ht (L 12)
      have := ht (L 16)
      omega
    clear hb2
    have hA := hE.agree
    have a2 := (hA 2 rfl).trans r2
    have a3 := (hA 3 rfl).trans r3
    obtain ⟨x, y, hc1⟩ := hc1
    have f19 : FInt (e' 4) := hE.fact 19 4 rfl (by kernel_rfl)
    obtain ⟨tx, f19⟩ := f19
    clear hE hA hall
    repeat' (first | (refine KV.run _ ?_) | (refine KQ.run _ ?_) | (refine KT.run _ ?_) | (refine AWp.seqH fun KC => ?_) | (refine AWp.block ?_) | (refine AWp.region ?_) | (refine mops_step0 rfl rfl fun KC => ?_) | (refine mops_step1 rfl fun KC => ?_) | (refine mops_step2 rfl fun KC => ?_) | (refine AWp.ret ?_) | (refine AWp.skip ?_) | (refine AWp.exit ?_) | (refine aops_callH rfl fun kC => ?_) | (refine qops_callH rfl fun kC => ?_) | (refine AWp.condB ?_) | (simp only [bse, wk, tys, storeH_ptr, Nat.reduceEqDiff, ↓reduceIte, reduceCtorEq, Nat.reduceAdd, Nat.reduceLeDiff, Int.reduceBEq, Int.reduceLT, Int.reduceLE, Int.reduceEq, ne_eq, not_false_eq_true, Nat.reduceMul, srcB_eq, Int.reduceToNat, Int.cast_ofNat_Int, voterE_val, voterE_sz, choiceE_val, choiceE_sz, refE_val, refE_sz, *]) | (refine condK_bool (fun hb => ?_) (fun hb => ?_) <;> ((try simp only [Bool.not_eq_true', Bool.not_eq_false'] at hb) <;> (try (have hbe := of_decide_eq_true hb)) <;> (try (have hbe := eq_of_beq hb)))) | (refine aops_partB ?_) | (refine qops_partB ?_))
    exact EOut.val (by (repeat' (first | exact Im.nilL | refine Im.consL ?_ ?_ | refine Im.appL ?_ ?_ | exact Im.flat _ rfl | exact islE_im _ _ | exact Enc.val_im _ _ | assumption | refine Im.aggL ?_ | refine Im.tupleL ?_ | refine Im.funcL ?_ | refine Im.funcA ?_ | refine Im.isl ?_ | refine Im.ip ?_)); done) ⟨⟨yk, yl, ys⟩, ⟨x, y⟩, tx, rfl, hy⟩
end Go.BM
