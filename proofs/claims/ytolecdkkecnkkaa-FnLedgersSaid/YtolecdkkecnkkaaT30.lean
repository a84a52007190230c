/- Draws: the source, single draws. -/
import Derived.Test.YtolecdkkecnkkaaT1
import Derived.Test.YtolecdkkecnkkaaC29
set_option linter.unusedVariables false
set_option linter.unusedSimpArgs false
set_option maxRecDepth 100000
set_option maxHeartbeats 4000000
namespace Go.BM
open Go.Proofs Go.RowKit
attribute [local irreducible] ACalls AWp aops qops optK optP cK gateA condK mops qcallK PCalls loadV fldV idxV lenV slV storeH binS
theorem spec_l1Next (n : Int) (hn : n ≤ 4611686018427387904) : DCalls Try.prog 96 1 27 [.int .i64 n] (fun v => ∃ k : Int, v = .int .i64 k ∧ 0 ≤ k ∧ (1 ≤ n → k < n)) := by
  intro code a hcl h0 h1
  obtain ⟨m, rfl⟩ : ∃ m : Nat, a = m := ⟨a.toNat, by omega⟩
  have hm : m ≤ 1000000 := by omega
  have e1 : IntKind.i64.wrap ((m : Int) + 1) = ((m + 1 : Nat) : Int) := wr_succ (by omega)
  have e2 : IntKind.i64.wrap (((m + 1 : Nat) : Int) - 1) = (m : Int) := by rw [wr] <;> omega
  have pos : ∀ v : Nat, 1 ≤ n → 0 ≤ (v : Int).tmod n ∧ (1 ≤ n → (v : Int).tmod n < n) := fun v h => ⟨Int.tmod_nonneg _ (by omega), fun _ => Int.tmod_lt_of_pos _ (by omega)⟩
  unfold ptr0
  by_cases hn1 : n < 1
  · refine ACalls.enter (n := 71) (rs := [.tmp 4]) Try.func27 rfl rfl rfl (by kernel_rfl) (by kernel_rfl) (by kernel_rfl) (Nat.le_of_ble_eq_true rfl) ?_
    repeat' (first | (refine AWp.quiet (id := 8) (by kernel_rfl) (by kernel_rfl) ?_) | (refine AWp.quiet (id := 10) (by kernel_rfl) (by kernel_rfl) ?_) | (refine KV.run _ ?_) | (refine KQ.run _ ?_) | (refine KT.run _ ?_) | (refine AWp.seqH fun KC => ?_) | (refine AWp.block ?_) | (refine AWp.region ?_) | (refine mops_step0 rfl rfl fun KC => ?_) | (refine mops_step1 rfl fun KC => ?_) | (refine mops_step2 rfl fun KC => ?_) | (refine AWp.ret ?_) | (refine AWp.skip ?_) | (refine AWp.exit ?_) | (refine aops_callH rfl fun kC => ?_) | (refine qops_callH rfl fun kC => ?_) | (refine AWp.condB ?_) | (simp only [bse, wk, tys, storeH_ptr, Nat.reduceEqDiff, ↓reduceIte, reduceCtorEq, Nat.reduceAdd, Nat.reduceLeDiff, Int.reduceBEq, Int.reduceLT, Int.reduceLE, Int.reduceEq, ne_eq, not_false_eq_true, Nat.reduceMul, srcB_eq, Int.reduceToNat, Int.cast_ofNat_Int, *]) | (refine condK_bool (fun hb => ?_) (fun hb => ?_) <;> ((try simp only [Bool.not_eq_true', Bool.not_eq_false'] at hb) <;> (try (have hbe := of_decide_eq_true hb)) <;> (try (have hbe := eq_of_beq hb)))) | (refine aops_partB ?_) | (refine qops_partB ?_))
    exact DOut.flat ((m + 1 : Nat) : Int) rfl rfl ⟨0, rfl, by omega, by omega⟩ (by omega) (by omega)
  · have hn0 : n ≠ 0 := by omega
    by_cases hz : code.length = 0
    · have hb0 : ((code.length : Int) == 0) = true := by simp [hz]
      have e3 : IntKind.i64.wrap ((m : Int) * 7) = ((m * 7 : Nat) : Int) := by rw [wr] <;> omega
      clear hz
      refine ACalls.enter (n := 71) (rs := [.tmp 4]) Try.func27 rfl rfl rfl (by kernel_rfl) (by kernel_rfl) (by kernel_rfl) (Nat.le_of_ble_eq_true rfl) ?_
      repeat' (first | (refine AWp.quiet (id := 8) (by kernel_rfl) (by kernel_rfl) ?_) | (refine AWp.quiet (id := 10) (by kernel_rfl) (by kernel_rfl) ?_) | (refine KV.run _ ?_) | (refine KQ.run _ ?_) | (refine KT.run _ ?_) | (refine AWp.seqH fun KC => ?_) | (refine AWp.block ?_) | (refine AWp.region ?_) | (refine mops_step0 rfl rfl fun KC => ?_) | (refine mops_step1 rfl fun KC => ?_) | (refine mops_step2 rfl fun KC => ?_) | (refine AWp.ret ?_) | (refine AWp.skip ?_) | (refine AWp.exit ?_) | (refine aops_callH rfl fun kC => ?_) | (refine qops_callH rfl fun kC => ?_) | (refine AWp.condB ?_) | (simp only [bse, wk, tys, storeH_ptr, Nat.reduceEqDiff, ↓reduceIte, reduceCtorEq, Nat.reduceAdd, Nat.reduceLeDiff, Int.reduceBEq, Int.reduceLT, Int.reduceLE, Int.reduceEq, ne_eq, not_false_eq_true, Nat.reduceMul, srcB_eq, Int.reduceToNat, Int.cast_ofNat_Int, *]) | (refine condK_bool (fun hb => ?_) (fun hb => ?_) <;> ((try simp only [Bool.not_eq_true', Bool.not_eq_false'] at hb) <;> (try (have hbe := of_decide_eq_true hb)) <;> (try (have hbe := eq_of_beq hb)))) | (refine aops_partB ?_) | (refine qops_partB ?_))
      exact DOut.flat ((m + 1 : Nat) : Int) rfl rfl ⟨_, rfl, pos _ (by omega)⟩ (by omega) (by omega)
    · have hb0 : ((code.length : Int) == 0) = false := by rw [beq_eq_false_iff_ne]; omega
      have hk0 : (code.length : Int) ≠ 0 := by omega
      have l1 : m % code.length < code.length := Nat.mod_lt _ (by omega)
      have l2 : (m + 1) % code.length < code.length := Nat.mod_lt _ (by omega)
      have t1 := tmod_nat m code.length
      have t2 := tmod_nat (m + 1) code.length
      have t3 := tdiv_nat m code.length
      have q1 : m / code.length ≤ 1000000 := Nat.le_trans (Nat.div_le_self _ _) hm
      generalize m / code.length = d at t3 q1
      have t4 := wr_nat (m := d) (by omega)
      have t5 : IntKind.i64.wrap ((d : Int) * 37) = ((d * 37 : Nat) : Int) := by rw [wr] <;> omega
      have u1 := wr_byte code[m % code.length]
      have u2 := wr_byte code[(m + 1) % code.length]
      have b1 := (code[m % code.length]).toNat_lt
      have b2 := (code[(m + 1) % code.length]).toNat_lt
      generalize hx1 : (code[m % code.length]).toNat = x1 at u1 b1
      generalize hx2 : (code[(m + 1) % code.length]).toNat = x2 at u2 b2
      have s1 : IntKind.i64.wrap ((x1 : Int) + ((d * 37 : Nat) : Int)) = ((x1 + d * 37 : Nat) : Int) := by rw [wr] <;> omega
      have s2 : IntKind.i64.wrap (((x1 + d * 37 : Nat) : Int) * 251) = (((x1 + d * 37) * 251 : Nat) : Int) := by rw [wr] <;> omega
      have s3 : IntKind.i64.wrap ((x2 : Int) * 13) = ((x2 * 13 : Nat) : Int) := by rw [wr] <;> omega
      have s4 : IntKind.i64.wrap ((((x1 + d * 37) * 251 : Nat) : Int) + ((x2 * 13 : Nat) : Int)) = (((x1 + d * 37) * 251 + x2 * 13 : Nat) : Int) := by rw [wr] <;> omega
      have s5 : IntKind.i64.wrap ((((x1 + d * 37) * 251 + x2 * 13 : Nat) : Int) + (m : Int)) = (((x1 + d * 37) * 251 + x2 * 13 + m : Nat) : Int) := by rw [wr] <;> omega
      by_cases h200 : 200 < n
      all_goals
        refine ACalls.enter (n := 71) (rs := [.tmp 4]) Try.func27 rfl rfl rfl (by kernel_rfl) (by kernel_rfl) (by kernel_rfl) (Nat.le_of_ble_eq_true rfl) ?_
        repeat' (first | (refine AWp.quiet (id := 8) (by kernel_rfl) (by kernel_rfl) ?_) | (refine AWp.quiet (id := 10) (by kernel_rfl) (by kernel_rfl) ?_) | (refine KV.run _ ?_) | (refine KQ.run _ ?_) | (refine KT.run _ ?_) | (refine AWp.seqH fun KC => ?_) | (refine AWp.block ?_) | (refine AWp.region ?_) | (refine mops_step0 rfl rfl fun KC => ?_) | (refine mops_step1 rfl fun KC => ?_) | (refine mops_step2 rfl fun KC => ?_) | (refine AWp.ret ?_) | (refine AWp.skip ?_) | (refine AWp.exit ?_) | (refine aops_callH rfl fun kC => ?_) | (refine qops_callH rfl fun kC => ?_) | (refine AWp.condB ?_) | (simp only [bse, wk, tys, storeH_ptr, Nat.reduceEqDiff, ↓reduceIte, reduceCtorEq, Nat.reduceAdd, Nat.reduceLeDiff, Int.reduceBEq, Int.reduceLT, Int.reduceLE, Int.reduceEq, ne_eq, not_false_eq_true, Nat.reduceMul, srcB_eq, Int.reduceToNat, Int.cast_ofNat_Int, *]) | (refine condK_bool (fun hb => ?_) (fun hb => ?_) <;> ((try simp only [Bool.not_eq_true', Bool.not_eq_false'] at hb) <;> (try (have hbe := of_decide_eq_true hb)) <;> (try (have hbe := eq_of_beq hb)))) | (refine aops_partB ?_) | (refine qops_partB ?_))
        exact DOut.flat ((m + 1 : Nat) : Int) rfl rfl ⟨_, rfl, pos _ (by omega)⟩ (by omega) (by omega)
theorem spec_l1NextN (n : Int) (hn : n ≤ 4611686018427387904) : DCalls Try.prog 96 1 27 [.int .i64 n] (fun v => ∃ k : Nat, v = .int .i64 (k : Int) ∧ (1 ≤ n → (k : Int) < n)) :=
  (spec_l1Next n hn).mono fun v ⟨k, e, h0, h1⟩ => ⟨k.toNat, by rw [e, Int.toNat_of_nonneg h0], by rw [Int.toNat_of_nonneg h0]; exact h1⟩
theorem spec_l1NextI (n : Nat) (h1 : 1 ≤ n) (hn : n ≤ 4611686018427387904) : DCalls Try.prog 96 1 27 [.int .i64 (n : Int)] (fun v => ∃ k : Nat, v = .int .i64 (k : Int) ∧ k < n) :=
  (spec_l1NextN n (by omega)).mono fun v ⟨k, e, h⟩ => ⟨k, e, by have := h (by omega); omega⟩
theorem spec_l1Chance (n : Int) (hn : n ≤ 4611686018427387904) : DCalls Try.prog 96 1 56 [.int .i64 n] (fun v => ∃ b : Bool, v = .bool b) := by
  intro code a hcl h0 h1
  unfold ptr0
  refine ACalls.enter (n := 9) (rs := [.tmp 4]) Try.func56 rfl rfl rfl (by kernel_rfl) (by kernel_rfl) (by kernel_rfl) (Nat.le_of_ble_eq_true rfl) ?_
  repeat' (first | (refine ACalls.start ?_; first | (refine ACalls.get ((spec_l1Next n hn).val rfl (Nat.zero_le _) (by repeat' (first | exact Im.nilL | refine Im.consL ?_ ?_ | refine Im.appL ?_ ?_ | exact Im.flat _ rfl | exact islE_im _ _ | exact Enc.val_im _ _ | assumption | refine Im.aggL ?_ | refine Im.funcL ?_ | refine Im.funcA ?_ | refine Im.isl ?_ | refine Im.ip ?_)) hcl (by omega) (by omega)) (by first | exact Nat.le_refl _ | exact Nat.zero_le _ | (simp only [List.length_append, List.length_cons, List.length_nil]; omega) | (simp only [List.length_set]; omega) | omega) (by first | exact Nat.le_refl _ | exact Nat.zero_le _ | (simp only [List.length_append, List.length_cons, List.length_nil]; omega) | (simp only [List.length_set]; omega) | omega) ?_; rintro _ _ ⟨a1, ⟨k, rfl, hk0, hk1⟩, _, ha1, ha2, rfl⟩)) | (refine KV.run _ ?_) | (refine KQ.run _ ?_) | (refine KT.run _ ?_) | (refine AWp.seqH fun KC => ?_) | (refine AWp.block ?_) | (refine AWp.region ?_) | (refine mops_step0 rfl rfl fun KC => ?_) | (refine mops_step1 rfl fun KC => ?_) | (refine mops_step2 rfl fun KC => ?_) | (refine AWp.ret ?_) | (refine AWp.skip ?_) | (refine AWp.exit ?_) | (refine aops_callH rfl fun kC => ?_) | (refine qops_callH rfl fun kC => ?_) | (refine AWp.condB ?_) | (simp only [bse, wk, tys, storeH_ptr, Nat.reduceEqDiff, ↓reduceIte, reduceCtorEq, Nat.reduceAdd, Nat.reduceLeDiff, Int.reduceBEq, Int.reduceLT, Int.reduceLE, Int.reduceEq, ne_eq, not_false_eq_true, Nat.reduceMul, srcB_eq, Int.reduceToNat, Int.cast_ofNat_Int, *]) | (refine condK_bool (fun hb => ?_) (fun hb => ?_) <;> ((try simp only [Bool.not_eq_true', Bool.not_eq_false'] at hb) <;> (try (have hbe := of_decide_eq_true hb)) <;> (try (have hbe := eq_of_beq hb)))) | (refine aops_partB ?_) | (refine qops_partB ?_))
  exact DOut.flat a1 rfl rfl ⟨_, rfl⟩ (by omega) (by omega)
theorem intE_map (xs : List Int) : intE.flat xs = xs.map (Value.int .i64) := by
  induction xs with
  | nil => rfl
  | cons x l ih => rw [intE.flat_cons, ih]; rfl
theorem intE_at (xs : List Int) (j : Nat) (hj : j < xs.length) : (intE.flat xs)[j]? = some (.int .i64 xs[j]) := by
  rw [intE_map]
  simp [List.getElem?_eq_getElem hj]
theorem spec_l1Pick (xs : List Int) {B r q : Nat} {H : AH} {code : List UInt8} {a : Int} {cs : List Value} (hx : 0 < xs.length) (hl : xs.length ≤ 1000) (hr : H[r]? = some (srcB 96 code a)) (hB : B ≤ r) (hq : H[q]? = some ⟨2, 1, cs, 0, true⟩) (hcs : cs = intE.flat xs) (hne : q ≠ r)
    (hcl : code.length ≤ 1048576) (h0 : 0 ≤ a) (h1 : a + 1 ≤ 1000000) : ACalls Try.prog B 26 [.pointer (some ⟨r, 0, some 0⟩), .slice (some ⟨q, 0, none⟩) xs.length 0] H fun d H' => ∃ k a', d = .int .i64 k ∧ k ∈ xs ∧ a ≤ a' ∧ a' ≤ a + 1 ∧ H' = H.set r (srcB 96 code a') := by
  have hqs := fun b => get_setne hq hne b
  have hrl := lt_of_some hr
  subst hcs
  refine ACalls.enter (n := 12) (rs := [.tmp 4]) Try.func26 rfl rfl rfl (by kernel_rfl) (by kernel_rfl) (by kernel_rfl) (Nat.le_of_ble_eq_true rfl) ?_
  repeat' (first | (refine ACalls.start ?_; first | (refine ACalls.get (DCalls.val (B := B) (spec_l1Next xs.length (by omega)) hr hB (by repeat' (first | exact Im.nilL | refine Im.consL ?_ ?_ | refine Im.appL ?_ ?_ | exact Im.flat _ rfl | exact islE_im _ _ | exact Enc.val_im _ _ | assumption | refine Im.aggL ?_ | refine Im.funcL ?_ | refine Im.funcA ?_ | refine Im.isl ?_ | refine Im.ip ?_)) hcl (by omega) (by omega)) (by first | exact Nat.le_refl _ | exact Nat.zero_le _ | (simp only [List.length_append, List.length_cons, List.length_nil]; omega) | (simp only [List.length_set]; omega) | omega) (by first | exact Nat.le_refl _ | exact Nat.zero_le _ | (simp only [List.length_append, List.length_cons, List.length_nil]; omega) | (simp only [List.length_set]; omega) | omega) ?_; rintro _ _ ⟨a1, ⟨k, rfl, hk0, hk1⟩, _, ha1, ha2, rfl⟩)) | (refine KV.run _ ?_) | (refine KQ.run _ ?_) | (refine KT.run _ ?_) | (refine AWp.seqH fun KC => ?_) | (refine AWp.block ?_) | (refine AWp.region ?_) | (refine mops_step0 rfl rfl fun KC => ?_) | (refine mops_step1 rfl fun KC => ?_) | (refine mops_step2 rfl fun KC => ?_) | (refine AWp.ret ?_) | (refine AWp.skip ?_) | (refine AWp.exit ?_) | (refine aops_callH rfl fun kC => ?_) | (refine qops_callH rfl fun kC => ?_) | (refine AWp.condB ?_) | (simp only [bse, wk, tys, storeH_ptr, Nat.reduceEqDiff, ↓reduceIte, reduceCtorEq, Nat.reduceAdd, Nat.reduceLeDiff, Int.reduceBEq, Int.reduceLT, Int.reduceLE, Int.reduceEq, ne_eq, not_false_eq_true, Nat.reduceMul, srcB_eq, Int.reduceToNat, Int.cast_ofNat_Int, *]) | (refine condK_bool (fun hb => ?_) (fun hb => ?_) <;> ((try simp only [Bool.not_eq_true', Bool.not_eq_false'] at hb) <;> (try (have hbe := of_decide_eq_true hb)) <;> (try (have hbe := eq_of_beq hb)))) | (refine aops_partB ?_) | (refine qops_partB ?_))
  obtain ⟨j, rfl⟩ : ∃ j : Nat, k = j := ⟨k.toNat, by omega⟩
  have hj : j < xs.length := by omega
  have hj0 : (0 : Int) ≤ (j : Int) := by omega
  have hj1 : (j : Int) < (xs.length : Int) := by omega
  have hat := intE_at xs j hj
  repeat' (first | (refine KV.run _ ?_) | (refine KQ.run _ ?_) | (refine KT.run _ ?_) | (refine AWp.seqH fun KC => ?_) | (refine AWp.block ?_) | (refine AWp.region ?_) | (refine mops_step0 rfl rfl fun KC => ?_) | (refine mops_step1 rfl fun KC => ?_) | (refine mops_step2 rfl fun KC => ?_) | (refine AWp.ret ?_) | (refine AWp.skip ?_) | (refine AWp.exit ?_) | (refine aops_callH rfl fun kC => ?_) | (refine qops_callH rfl fun kC => ?_) | (refine AWp.condB ?_) | (simp only [bse, wk, tys, storeH_ptr, Nat.reduceEqDiff, ↓reduceIte, reduceCtorEq, Nat.reduceAdd, Nat.reduceLeDiff, Int.reduceBEq, Int.reduceLT, Int.reduceLE, Int.reduceEq, ne_eq, not_false_eq_true, Nat.reduceMul, srcB_eq, Int.reduceToNat, Int.cast_ofNat_Int, *]) | (refine condK_bool (fun hb => ?_) (fun hb => ?_) <;> ((try simp only [Bool.not_eq_true', Bool.not_eq_false'] at hb) <;> (try (have hbe := of_decide_eq_true hb)) <;> (try (have hbe := eq_of_beq hb)))) | (refine aops_partB ?_) | (refine qops_partB ?_))
  exact ⟨_, a1, rfl, List.getElem_mem hj, ha1, by omega, rfl⟩
/-- A pick of numbers of which nothing is asked. -/
theorem spec_l1PickA {B r q n : Nat} {H : AH} {code : List UInt8} {a : Int} {cs : List Value} (hr : H[r]? = some (srcB 96 code a)) (hB : B ≤ r) (hq : H[q]? = some ⟨2, 1, cs, 0, true⟩) (hcs : ∃ xs : List Int, 0 < xs.length ∧ xs.length ≤ 1000 ∧ n = xs.length ∧ cs = intE.flat xs) (hne : q ≠ r)
    (hcl : code.length ≤ 1048576) (h0 : 0 ≤ a) (h1 : a + 1 ≤ 1000000) : ACalls Try.prog B 26 [.pointer (some ⟨r, 0, some 0⟩), .slice (some ⟨q, 0, none⟩) n 0] H fun d H' => ∃ k a', d = .int .i64 k ∧ a ≤ a' ∧ a' ≤ a + 1 ∧ H' = H.set r (srcB 96 code a') := by
  obtain ⟨xs, hx, hl, rfl, hcs⟩ := hcs
  exact (spec_l1Pick xs hx hl hr hB hq hcs hne hcl h0 h1).mono fun d H' ⟨k, a', e1, _, e2, e3, e4⟩ => ⟨k, a', e1, e2, e3, e4⟩
theorem spec_l1Word : DCalls Try.prog 96 1 41 [] (fun v => ∃ s : ByteArray, v = .string s ∧ s.size ≤ 5 ∧ 1 ≤ s.size) := by
  intro code a hcl h0 h1
  unfold ptr0
  refine ACalls.enter (n := 8) (rs := [.tmp 2]) Try.func41 rfl rfl rfl (by kernel_rfl) (by kernel_rfl) (by kernel_rfl) (Nat.le_of_ble_eq_true rfl) ?_
  repeat' (first | (refine ACalls.start ?_; first | (refine ACalls.get ((spec_l1Next 5 (by omega)).val rfl (Nat.zero_le _) (by repeat' (first | exact Im.nilL | refine Im.consL ?_ ?_ | refine Im.appL ?_ ?_ | exact Im.flat _ rfl | exact islE_im _ _ | exact Enc.val_im _ _ | assumption | refine Im.aggL ?_ | refine Im.funcL ?_ | refine Im.funcA ?_ | refine Im.isl ?_ | refine Im.ip ?_)) hcl (by omega) (by omega)) (by first | exact Nat.le_refl _ | exact Nat.zero_le _ | (simp only [List.length_append, List.length_cons, List.length_nil]; omega) | (simp only [List.length_set]; omega) | omega) (by first | exact Nat.le_refl _ | exact Nat.zero_le _ | (simp only [List.length_append, List.length_cons, List.length_nil]; omega) | (simp only [List.length_set]; omega) | omega) ?_; rintro _ _ ⟨a1, ⟨k, rfl, hk0, hk1⟩, _, ha1, ha2, rfl⟩)) | (refine KV.run _ ?_) | (refine KQ.run _ ?_) | (refine KT.run _ ?_) | (refine AWp.seqH fun KC => ?_) | (refine AWp.block ?_) | (refine AWp.region ?_) | (refine mops_step0 rfl rfl fun KC => ?_) | (refine mops_step1 rfl fun KC => ?_) | (refine mops_step2 rfl fun KC => ?_) | (refine AWp.ret ?_) | (refine AWp.skip ?_) | (refine AWp.exit ?_) | (refine aops_callH rfl fun kC => ?_) | (refine qops_callH rfl fun kC => ?_) | (refine AWp.condB ?_) | (simp only [bse, wk, tys, storeH_ptr, Nat.reduceEqDiff, ↓reduceIte, reduceCtorEq, Nat.reduceAdd, Nat.reduceLeDiff, Int.reduceBEq, Int.reduceLT, Int.reduceLE, Int.reduceEq, ne_eq, not_false_eq_true, Nat.reduceMul, srcB_eq, Int.reduceToNat, Int.cast_ofNat_Int, *]) | (refine condK_bool (fun hb => ?_) (fun hb => ?_) <;> ((try simp only [Bool.not_eq_true', Bool.not_eq_false'] at hb) <;> (try (have hbe := of_decide_eq_true hb)) <;> (try (have hbe := eq_of_beq hb)))) | (refine aops_partB ?_) | (refine qops_partB ?_))
  have hk : k = 0 ∨ k = 1 ∨ k = 2 ∨ k = 3 ∨ k = 4 := by omega
  rcases hk with rfl | rfl | rfl | rfl | rfl
  all_goals
    repeat' (first | (refine KV.run _ ?_) | (refine KQ.run _ ?_) | (refine KT.run _ ?_) | (refine AWp.seqH fun KC => ?_) | (refine AWp.block ?_) | (refine AWp.region ?_) | (refine mops_step0 rfl rfl fun KC => ?_) | (refine mops_step1 rfl fun KC => ?_) | (refine mops_step2 rfl fun KC => ?_) | (refine AWp.ret ?_) | (refine AWp.skip ?_) | (refine AWp.exit ?_) | (refine aops_callH rfl fun kC => ?_) | (refine qops_callH rfl fun kC => ?_) | (refine AWp.condB ?_) | (simp only [bse, wk, tys, storeH_ptr, Nat.reduceEqDiff, ↓reduceIte, reduceCtorEq, Nat.reduceAdd, Nat.reduceLeDiff, Int.reduceBEq, Int.reduceLT, Int.reduceLE, Int.reduceEq, ne_eq, not_false_eq_true, Nat.reduceMul, srcB_eq, Int.reduceToNat, Int.cast_ofNat_Int, *]) | (refine condK_bool (fun hb => ?_) (fun hb => ?_) <;> ((try simp only [Bool.not_eq_true', Bool.not_eq_false'] at hb) <;> (try (have hbe := of_decide_eq_true hb)) <;> (try (have hbe := eq_of_beq hb)))) | (refine aops_partB ?_) | (refine qops_partB ?_))
    exact DOut.flat a1 rfl rfl ⟨_, rfl, by decide, by decide⟩ (by omega) (by omega)
theorem spec_l1Source (H : AH) (code : List UInt8) : ACalls Try.prog H.length 24 [islE byteE code] H fun d H' => d = .pointer (some ⟨H.length, 0, some 0⟩) ∧ H' = H ++ [srcB 96 code 0] := by
  refine ACalls.enter (n := 6) (rs := [.tmp 2]) Try.func24 rfl rfl rfl (by kernel_rfl) (by kernel_rfl) (by kernel_rfl) (Nat.le_of_ble_eq_true rfl) ?_
  repeat' (first | (refine KV.run _ ?_) | (refine KQ.run _ ?_) | (refine KT.run _ ?_) | (refine AWp.seqH fun KC => ?_) | (refine AWp.block ?_) | (refine AWp.region ?_) | (refine mops_step0 rfl rfl fun KC => ?_) | (refine mops_step1 rfl fun KC => ?_) | (refine mops_step2 rfl fun KC => ?_) | (refine AWp.ret ?_) | (refine AWp.skip ?_) | (refine AWp.exit ?_) | (refine aops_callH rfl fun kC => ?_) | (refine qops_callH rfl fun kC => ?_) | (refine AWp.condB ?_) | (simp only [bse, wk, tys, storeH_ptr, Nat.reduceEqDiff, ↓reduceIte, reduceCtorEq, Nat.reduceAdd, Nat.reduceLeDiff, Int.reduceBEq, Int.reduceLT, Int.reduceLE, Int.reduceEq, ne_eq, not_false_eq_true, Nat.reduceMul, srcB_eq, Int.reduceToNat, Int.cast_ofNat_Int, *]) | (refine condK_bool (fun hb => ?_) (fun hb => ?_) <;> ((try simp only [Bool.not_eq_true', Bool.not_eq_false'] at hb) <;> (try (have hbe := of_decide_eq_true hb)) <;> (try (have hbe := eq_of_beq hb)))) | (refine aops_partB ?_) | (refine qops_partB ?_))
  all_goals first | exact ⟨rfl, rfl⟩ | exact trivial
end Go.BM
