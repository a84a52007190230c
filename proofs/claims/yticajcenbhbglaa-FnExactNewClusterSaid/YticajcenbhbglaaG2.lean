/- Package slices. -/
import Derived.Test.YticajcenbhbglaaT1
import Derived.Test.YticajcenbhbglaaC25
set_option linter.unusedVariables false
set_option linter.unusedSimpArgs false
set_option maxRecDepth 100000
set_option maxHeartbeats 4000000
namespace Go.BM
open Go.Proofs Go.RowKit
attribute [local irreducible] ACalls AWp aops qops optK optP cK gateA condK mops qcallK PCalls loadV fldV idxV lenV slV storeH binS

theorem lib_ContainsFunc_int (xs : List Int) (hn : xs.length < 4611686018427387904) (g : FuncId) (caps : Array Value) (hc : ∀ c ∈ caps.toList, Im c) (p : Int → Bool)
    (hp : ∀ x ∈ xs, PCalls Try.prog g ([intE.val x] ++ caps.toList) (.bool (p x))) :
    PCalls Try.prog 57 [islE intE xs, .func (.func g) #[] caps] (.bool (xs.any p)) := by
  haveI : ImLs caps.toList := ⟨hc⟩
  have hz := findI_any p xs
  refine PCalls.flat rfl ?_; refine ACalls.enter (n := 9) (rs := [.tmp 4]) Try.func57 rfl rfl rfl (by kernel_rfl) (by kernel_rfl) (by kernel_rfl) (Nat.le_of_ble_eq_true rfl) ?_
  repeat' (first | (refine ACalls.start ?_; first | (refine ACalls.ofJi (lib_IndexFunc_int xs hn g caps hc p hp) rfl ?_)) | (refine qcall_start ?_; first | (refine qcallFi (lib_IndexFunc_int xs hn g caps hc p hp) rfl ?_ ?_; (focus ((first | exact rfl | (simp [pureV, flatV]; done)))))) | (refine KV.run _ ?_) | (refine KQ.run _ ?_) | (refine KT.run _ ?_) | (refine AWp.seqH fun KC => ?_) | (refine AWp.block ?_) | (refine AWp.region ?_) | (refine mops_step0 rfl rfl fun KC => ?_) | (refine mops_step1 rfl fun KC => ?_) | (refine mops_step2 rfl fun KC => ?_) | (refine AWp.ret ?_) | (refine AWp.skip ?_) | (refine AWp.exit ?_) | (refine aops_callH rfl fun kC => ?_) | (refine qops_callH rfl fun kC => ?_) | (refine AWp.condB ?_) | (simp only [bse, wk, tys, storeH_ptr, Nat.reduceEqDiff, ↓reduceIte, reduceCtorEq, Nat.reduceAdd, Nat.reduceLeDiff, Int.reduceBEq, Int.reduceLT, Int.reduceLE, Int.reduceEq, ne_eq, not_false_eq_true, Nat.reduceMul, *]) | (refine condK_bool (fun hb => ?_) (fun hb => ?_) <;> ((try simp only [Bool.not_eq_true', Bool.not_eq_false'] at hb) <;> (try (have hbe := of_decide_eq_true hb)) <;> (try (have hbe := eq_of_beq hb)))) | (refine aops_partB ?_) | (refine qops_partB ?_))


theorem lib_Clone_int_own (H : AH) (xs : List Int) (hn : xs.length ≤ 1048576) :
    ACalls Try.prog H.length 25 [islE intE xs] H fun d H' => ∃ ver o, (xs.length ≠ 0 → o = true) ∧ d = .slice (some ⟨H.length, 0, none⟩) xs.length ver ∧ H' = H ++ [sb 2 intE xs ver o] := by
  have hap := appendH_sb (P := Try.prog) (B := H.length) (H := H ++ [sb 2 intE [] 0 true]) (E := intE) (xs := []) (ys := xs) (r := H.length) (x := islE intE xs) (tx := 22) elZ22 zOk22 (by rw [get_app0]; rfl) (Nat.le_refl _) (srcV_isl' elZ22) (by simp; omega) (by simp; omega)
  simp only [sb_eq, List.nil_append, List.length_nil, Nat.zero_add, Bool.true_or, intE.flat_nil, intE_sz] at hap
  refine ACalls.ghost (post := fun d H' => (d = .slice none 0 0 ∧ xs = [] ∧ H' = H) ∨ (d = .slice (some ⟨H.length, 0, none⟩) xs.length 1 ∧ H' = H ++ [sb 2 intE xs 1 true])) ?_ ?_
  · refine ACalls.enter (n := 8) (rs := [.tmp 2]) Try.func25 rfl rfl rfl (by kernel_rfl) (by kernel_rfl) (by kernel_rfl) (Nat.le_of_ble_eq_true rfl) ?_
    repeat' (first | (refine KV.run _ ?_) | (refine KQ.run _ ?_) | (refine KT.run _ ?_) | (refine AWp.seqH fun KC => ?_) | (refine AWp.block ?_) | (refine AWp.region ?_) | (refine mops_step0 rfl rfl fun KC => ?_) | (refine mops_step1 rfl fun KC => ?_) | (refine mops_step2 rfl fun KC => ?_) | (refine AWp.ret ?_) | (refine AWp.skip ?_) | (refine AWp.exit ?_) | (refine aops_callH rfl fun kC => ?_) | (refine qops_callH rfl fun kC => ?_) | (refine AWp.condB ?_) | (simp only [bse, wk, tys, storeH_ptr, Nat.reduceEqDiff, ↓reduceIte, reduceCtorEq, Nat.reduceAdd, Nat.reduceLeDiff, Int.reduceBEq, Int.reduceLT, Int.reduceLE, Int.reduceEq, ne_eq, not_false_eq_true, Nat.reduceMul, *]) | (refine condK_bool (fun hb => ?_) (fun hb => ?_) <;> ((try simp only [Bool.not_eq_true', Bool.not_eq_false'] at hb) <;> (try (have hbe := of_decide_eq_true hb)) <;> (try (have hbe := eq_of_beq hb)))) | (refine aops_partB ?_) | (refine qops_partB ?_))
    refine nilQ_intro elZ22 slen_islE fun b hb => ?_
    cases b with
    | true =>
      have hx : xs = [] := List.eq_nil_of_length_eq_zero (hb rfl)
      clear hb
      repeat' (first | (refine KV.run _ ?_) | (refine KQ.run _ ?_) | (refine KT.run _ ?_) | (refine AWp.seqH fun KC => ?_) | (refine AWp.block ?_) | (refine AWp.region ?_) | (refine mops_step0 rfl rfl fun KC => ?_) | (refine mops_step1 rfl fun KC => ?_) | (refine mops_step2 rfl fun KC => ?_) | (refine AWp.ret ?_) | (refine AWp.skip ?_) | (refine AWp.exit ?_) | (refine aops_callH rfl fun kC => ?_) | (refine qops_callH rfl fun kC => ?_) | (refine AWp.condB ?_) | (simp only [bse, wk, tys, storeH_ptr, Nat.reduceEqDiff, ↓reduceIte, reduceCtorEq, Nat.reduceAdd, Nat.reduceLeDiff, Int.reduceBEq, Int.reduceLT, Int.reduceLE, Int.reduceEq, ne_eq, not_false_eq_true, Nat.reduceMul, *]) | (refine condK_bool (fun hb => ?_) (fun hb => ?_) <;> ((try simp only [Bool.not_eq_true', Bool.not_eq_false'] at hb) <;> (try (have hbe := of_decide_eq_true hb)) <;> (try (have hbe := eq_of_beq hb)))) | (refine aops_partB ?_) | (refine qops_partB ?_))
      exact .inl trivial
    | false =>
      clear hb
      repeat' (first | (refine KV.run _ ?_) | (refine KQ.run _ ?_) | (refine KT.run _ ?_) | (refine AWp.seqH fun KC => ?_) | (refine AWp.block ?_) | (refine AWp.region ?_) | (refine mops_step0 rfl rfl fun KC => ?_) | (refine mops_step1 rfl fun KC => ?_) | (refine mops_step2 rfl fun KC => ?_) | (refine AWp.ret ?_) | (refine AWp.skip ?_) | (refine AWp.exit ?_) | (refine aops_callH rfl fun kC => ?_) | (refine qops_callH rfl fun kC => ?_) | (refine AWp.condB ?_) | (simp only [bse, wk, tys, Nat.reduceEqDiff, ↓reduceIte, reduceCtorEq, Nat.reduceAdd, Nat.reduceLeDiff, Int.reduceBEq, Int.reduceLT, Int.reduceLE, Int.reduceEq, ne_eq, not_false_eq_true, Nat.reduceMul, *]) | (refine condK_bool (fun hb => ?_) (fun hb => ?_) <;> ((try simp only [Bool.not_eq_true', Bool.not_eq_false'] at hb) <;> (try (have hbe := of_decide_eq_true hb)) <;> (try (have hbe := eq_of_beq hb)))) | (refine aops_partB ?_) | (refine qops_partB ?_))
      first | exact .inr ⟨rfl, rfl⟩ | exact .inr rfl
  · rintro d H' (⟨rfl, rfl, rfl⟩ | ⟨rfl, rfl⟩)
    · exact .inr ⟨rfl, 2, intE.sz, 0, false, fun h => by simp at h, rfl, rfl⟩
    · exact .inl ⟨1, true, fun _ => rfl, rfl, rfl⟩
theorem lib_Clone_int (xs : List Int) (hn : xs.length ≤ 1048576) : PCalls Try.prog 25 [islE intE xs] (islE intE xs) :=
  PCalls.of ((lib_Clone_int_own [] xs hn).mono fun d H' ⟨ver, o, h1, h2, h3⟩ => by
    subst h2 h3
    exact Bor.sb rfl h1 rfl)


theorem lib_DeleteFunc_int (B : Nat) (H : AH) (r ver : Nat) (xs : List Int) (o : Bool) (hb : H[r]? = some ⟨2, intE.sz, intE.flat xs, ver, o⟩) (ho : xs.length ≠ 0 → o = true) (hB : B ≤ r) (hn : xs.length ≤ 1048576) (g : FuncId) (caps caps' : Array Value) (p : Int → Bool)
    (hcap : ∀ b : Blk, BorL (H.set r b) caps.toList caps'.toList) (hci : ∀ c ∈ caps'.toList, Im c) (hp : ∀ x ∈ xs, PCalls Try.prog g ([intE.val x] ++ caps'.toList) (.bool (p x))) :
    ACalls Try.prog B 37 [.slice (some ⟨r, 0, none⟩) xs.length ver, .func (.func g) #[] caps] H fun d H' => ∃ rest sp, d = .slice (some ⟨r, 0, sp⟩) (xs.filter fun x => !p x).length ver ∧ H' = H.set r ⟨2, intE.sz, intE.flat (xs.filter fun x => !p x) ++ rest, ver, o⟩ := by
  have hr := lt_of_some hb
  have hcap0 : BorL H caps.toList caps'.toList := by have := hcap ⟨2, intE.sz, intE.flat xs, ver, o⟩; rwa [set_same hb] at this
  have hix : ACalls Try.prog B 60 [.slice (some ⟨r, 0, none⟩) xs.length ver, .func (.func g) #[] caps] H fun d H' => d = .int .i64 (findI p xs) ∧ H = H' :=
    ACalls.ofP (lib_IndexFunc_int xs (by omega) g caps' hci p hp) (.cons (Bor.sb hb ho rfl) (.cons (Bor.funcC hcap0) .nil)) rfl ⟨rfl, rfl⟩
  by_cases hneg : findI p xs < 0
  · have hm : findI p xs = -1 := by have := findI_ge p xs; omega
    have hall : (xs.filter fun x => !p x) = xs := dl_all fun j hj => by
      cases hq : p xs[j] with
      | false => rfl
      | true =>
        have := findI_any p xs
        rw [List.any_eq_true.2 ⟨_, List.getElem_mem hj, hq⟩] at this
        have := of_decide_eq_true this
        omega
    rw [hall]
    rw [hm] at hix
    clear hneg hm hall
    refine ACalls.enter (n := 42) (rs := [.tmp 4]) Try.func37 rfl rfl rfl (by kernel_rfl) (by kernel_rfl) (by kernel_rfl) (Nat.le_of_ble_eq_true rfl) ?_
    repeat' (first | (refine ACalls.start ?_; first | (refine ACalls.get (hix) (by first | exact Nat.le_refl _ | exact Nat.zero_le _ | (simp only [List.length_append, List.length_cons, List.length_nil]; omega) | (simp only [List.length_set]; omega) | omega) (by first | exact Nat.le_refl _ | exact Nat.zero_le _ | (simp only [List.length_append, List.length_cons, List.length_nil]; omega) | (simp only [List.length_set]; omega) | omega) ?_; rintro _ _ ⟨rfl, rfl⟩)) | (refine KV.run _ ?_) | (refine KQ.run _ ?_) | (refine KT.run _ ?_) | (refine AWp.seqH fun KC => ?_) | (refine AWp.block ?_) | (refine AWp.region ?_) | (refine mops_step0 rfl rfl fun KC => ?_) | (refine mops_step1 rfl fun KC => ?_) | (refine mops_step2 rfl fun KC => ?_) | (refine AWp.ret ?_) | (refine AWp.skip ?_) | (refine AWp.exit ?_) | (refine aops_callH rfl fun kC => ?_) | (refine qops_callH rfl fun kC => ?_) | (refine AWp.condB ?_) | (simp only [bse, wk, tys, storeH_ptr, Nat.reduceEqDiff, ↓reduceIte, reduceCtorEq, Nat.reduceAdd, Nat.reduceLeDiff, Int.reduceBEq, Int.reduceLT, Int.reduceLE, Int.reduceEq, ne_eq, not_false_eq_true, Nat.reduceMul, *]) | (refine condK_bool (fun hb => ?_) (fun hb => ?_) <;> ((try simp only [Bool.not_eq_true', Bool.not_eq_false'] at hb) <;> (try (have hbe := of_decide_eq_true hb)) <;> (try (have hbe := eq_of_beq hb)))) | (refine aops_partB ?_) | (refine qops_partB ?_))
    exact ⟨[], none, rfl, by rw [List.append_nil]; exact (set_same hb).symm⟩
  · obtain ⟨k0, hk0, e0, hp0, hno⟩ := findI_spec p xs (by omega)
    have hown : o = true := ho (by omega)
    subst hown
    rw [e0] at hix
    have hm1 : ((k0 : Int) == -1) = false := by
      have : ¬ (k0 : Int) = -1 := by omega
      simp
    have hw0 := wr_succ (k := k0) (by omega)
    have hst := dl_start (xs := xs) (q := fun x => !p x) hk0 (fun j hj hjk => by rw [hno j hj hjk]; rfl) (by rw [hp0]; rfl)
    clear hneg e0
    refine ACalls.enter (n := 42) (rs := [.tmp 4]) Try.func37 rfl rfl rfl (by kernel_rfl) (by kernel_rfl) (by kernel_rfl) (Nat.le_of_ble_eq_true rfl) ?_
    repeat' (first | (refine ACalls.start ?_; first | (refine ACalls.get (hix) (by first | exact Nat.le_refl _ | exact Nat.zero_le _ | (simp only [List.length_append, List.length_cons, List.length_nil]; omega) | (simp only [List.length_set]; omega) | omega) (by first | exact Nat.le_refl _ | exact Nat.zero_le _ | (simp only [List.length_append, List.length_cons, List.length_nil]; omega) | (simp only [List.length_set]; omega) | omega) ?_; rintro _ _ ⟨rfl, rfl⟩)) | (refine KV.run _ ?_) | (refine KQ.run _ ?_) | (refine KT.run _ ?_) | (refine AWp.seqH fun KC => ?_) | (refine AWp.block ?_) | (refine AWp.region ?_) | (refine mops_step0 rfl rfl fun KC => ?_) | (refine mops_step1 rfl fun KC => ?_) | (refine mops_step2 rfl fun KC => ?_) | (refine AWp.ret ?_) | (refine AWp.skip ?_) | (refine AWp.exit ?_) | (refine aops_callH rfl fun kC => ?_) | (refine qops_callH rfl fun kC => ?_) | (refine AWp.condB ?_) | (simp only [bse, wk, tys, storeH_ptr, Nat.reduceEqDiff, ↓reduceIte, reduceCtorEq, Nat.reduceAdd, Nat.reduceLeDiff, Int.reduceBEq, Int.reduceLT, Int.reduceLE, Int.reduceEq, ne_eq, not_false_eq_true, Nat.reduceMul, *]) | (refine condK_bool (fun hb => ?_) (fun hb => ?_) <;> ((try simp only [Bool.not_eq_true', Bool.not_eq_false'] at hb) <;> (try (have hbe := of_decide_eq_true hb)) <;> (try (have hbe := eq_of_beq hb)))) | (refine aops_partB ?_) | (refine qops_partB ?_))
    refine AWp.loopH [16, 17, 18, 19, 22, 23, 24, 25, 7, 26, 27, 28, 29, 30, 31, 32, 33, 34, 35, 5, 20, 21, 6] (fun m e' H' => ∃ (i j : Nat) (zs : List Int), i ≤ j ∧ j ≤ xs.length ∧ m = xs.length - j ∧ e' 5 = .int .i64 i ∧ e' 6 = .int .i64 j ∧ H' = H.set r ⟨2, intE.sz, intE.flat zs, ver, true⟩ ∧ Hid (zs.length = xs.length ∧ zs.take i = (xs.take j).filter (fun x => !p x) ∧ zs.drop j = xs.drop j)) (xs.length - (k0 + 1))
      ⟨k0, k0 + 1, xs, by omega, by omega, rfl, by simp [put], rfl, (set_same hb).symm, rfl, hst, rfl⟩ ?_
    rintro m e' H' hA ⟨i, j, zs, hij, hj, rfl, h5, h6, rfl, hz⟩ hJ
    have a0 := hA 0 rfl; have a1 := hA 1 rfl; have a4 := hA 4 rfl; try simp only [bse, wk, tys, storeH_ptr, Nat.reduceEqDiff, ↓reduceIte, reduceCtorEq, Nat.reduceAdd, Nat.reduceLeDiff, Int.reduceBEq, Int.reduceLT, Int.reduceLE, Int.reduceEq, ne_eq, not_false_eq_true, Nat.reduceMul] at a0 a1 a4; clear hA
    obtain ⟨hzl, hz1, hz2⟩ := hz.out
    have hg : (H.set r ⟨2, intE.sz, intE.flat zs, ver, true⟩)[r]? = some (sb 2 intE zs ver true) := List.getElem?_set_self hr
    by_cases hlt : j < xs.length
    · have hlt' : (j : Int) < (xs.length : Int) := by omega
      have hit' : (i : Int) < (xs.length : Int) := by omega
      have hl1 := loadV_sb (P := Try.prog) (E := intE) (T := 2) (k := j) hg lay2 (by omega)
      rw [dl_at hlt (by omega) hz2] at hl1
      have hs1 := storeH_sb (P := Try.prog) (B := B) (E := intE) (T := 2) (k := i) (y := xs[j]) hg hB lay2 (by omega)
      rw [List.set_set] at hs1
      have hpk : ACalls Try.prog B g ([intE.val xs[j]] ++ caps.toList) (H.set r ⟨2, intE.sz, intE.flat zs, ver, true⟩) fun d H' => d = .bool (p xs[j]) ∧ H' = H.set r ⟨2, intE.sz, intE.flat zs, ver, true⟩ :=
        ACalls.ofP (hp _ (List.getElem_mem hlt)) (BorL.app (.cons (.same _ (intE.val_im _)) .nil) (hcap _)) rfl ⟨rfl, rfl⟩
      simp only [sb_eq, intE_sz, intE_val, Nat.mul_one] at hg hl1 hs1 hpk
      have hw := wr_succ (k := j) (by omega)
      have hwi := wr_succ (k := i) (by omega)
      cases hc : p xs[j] with
      | true =>
        have hd := dl_drop (xs := xs) (zs := zs) (q := fun x => !p x) hlt hz1 hz2 (by rw [hc]; rfl)
        rw [hc] at hpk
        repeat' (first | (refine ACalls.start ?_; first | (refine ACalls.get (hpk) (by first | exact Nat.le_refl _ | exact Nat.zero_le _ | (simp only [List.length_append, List.length_cons, List.length_nil]; omega) | (simp only [List.length_set]; omega) | omega) (by first | exact Nat.le_refl _ | exact Nat.zero_le _ | (simp only [List.length_append, List.length_cons, List.length_nil]; omega) | (simp only [List.length_set]; omega) | omega) ?_; rintro _ _ ⟨rfl, rfl⟩)) | (refine KV.run _ ?_) | (refine KQ.run _ ?_) | (refine KT.run _ ?_) | (refine AWp.seqH fun KC => ?_) | (refine AWp.block ?_) | (refine AWp.region ?_) | (refine mops_step0 rfl rfl fun KC => ?_) | (refine mops_step1 rfl fun KC => ?_) | (refine mops_step2 rfl fun KC => ?_) | (refine AWp.ret ?_) | (refine AWp.skip ?_) | (refine AWp.exit ?_) | (refine aops_callH rfl fun kC => ?_) | (refine qops_callH rfl fun kC => ?_) | (refine AWp.condB ?_) | (simp only [bse, wk, tys, Nat.reduceEqDiff, ↓reduceIte, reduceCtorEq, Nat.reduceAdd, Nat.reduceLeDiff, Int.reduceBEq, Int.reduceLT, Int.reduceLE, Int.reduceEq, ne_eq, not_false_eq_true, Nat.reduceMul, *]) | (refine condK_bool (fun hb => ?_) (fun hb => ?_) <;> ((try simp only [Bool.not_eq_true', Bool.not_eq_false'] at hb) <;> (try (have hbe := of_decide_eq_true hb)) <;> (try (have hbe := eq_of_beq hb)))) | (refine aops_partB ?_) | (refine qops_partB ?_))
        exact hJ.out _ _ ⟨xs.length - (j + 1), by omega, i, j + 1, zs, by omega, by omega, rfl, by simp [put, *], rfl, rfl, hzl, hd.1, hd.2⟩ (by repeat (first | exact Agree.refl _ _ | assumption | refine Agree.put ?_ rfl _))
      | false =>
        have hd := dl_keep (xs := xs) (zs := zs) (q := fun x => !p x) hzl hij hlt hz1 hz2 (by rw [hc]; rfl)
        rw [hc] at hpk
        repeat' (first | (refine ACalls.start ?_; first | (refine ACalls.get (hpk) (by first | exact Nat.le_refl _ | exact Nat.zero_le _ | (simp only [List.length_append, List.length_cons, List.length_nil]; omega) | (simp only [List.length_set]; omega) | omega) (by first | exact Nat.le_refl _ | exact Nat.zero_le _ | (simp only [List.length_append, List.length_cons, List.length_nil]; omega) | (simp only [List.length_set]; omega) | omega) ?_; rintro _ _ ⟨rfl, rfl⟩)) | (refine KV.run _ ?_) | (refine KQ.run _ ?_) | (refine KT.run _ ?_) | (refine AWp.seqH fun KC => ?_) | (refine AWp.block ?_) | (refine AWp.region ?_) | (refine mops_step0 rfl rfl fun KC => ?_) | (refine mops_step1 rfl fun KC => ?_) | (refine mops_step2 rfl fun KC => ?_) | (refine AWp.ret ?_) | (refine AWp.skip ?_) | (refine AWp.exit ?_) | (refine aops_callH rfl fun kC => ?_) | (refine qops_callH rfl fun kC => ?_) | (refine AWp.condB ?_) | (simp only [bse, wk, tys, Nat.reduceEqDiff, ↓reduceIte, reduceCtorEq, Nat.reduceAdd, Nat.reduceLeDiff, Int.reduceBEq, Int.reduceLT, Int.reduceLE, Int.reduceEq, ne_eq, not_false_eq_true, Nat.reduceMul, *]) | (refine condK_bool (fun hb => ?_) (fun hb => ?_) <;> ((try simp only [Bool.not_eq_true', Bool.not_eq_false'] at hb) <;> (try (have hbe := of_decide_eq_true hb)) <;> (try (have hbe := eq_of_beq hb)))) | (refine aops_partB ?_) | (refine qops_partB ?_))
        exact hJ.out _ _ ⟨xs.length - (j + 1), by omega, i + 1, j + 1, zs.set i xs[j], by omega, by omega, rfl, by simp [put, *], rfl, rfl, by simp [hzl], hd.1, hd.2⟩ (by repeat (first | exact Agree.refl _ _ | assumption | refine Agree.put ?_ rfl _))
    · have hlt' : ¬ (j : Int) < (xs.length : Int) := by omega
      have hje : j = xs.length := by omega
      subst hje
      have hfl : zs.take i = xs.filter (fun x => !p x) := by rw [hz1, List.take_length]
      have hil : Hid (i = (xs.filter fun x => !p x).length) := by unfold Hid; rw [← hfl]; simp; omega
      have hsl := slV_ownLo (P := Try.prog) (E := intE) (t := 22) (kd := .i64) (i := i) elZ22 hg (by omega)
      obtain ⟨rest, hcl⟩ := clearH_tail (P := Try.prog) (B := B) (E := intE) (t := 22) (sp := some (zs.length - i)) (i := i) elZ22 zer2 zOk22 hg hB (by omega)
      rw [List.set_set, hfl] at hcl
      have hsl2 := slV_ownHi (P := Try.prog) (E := intE) (H := H.set r ⟨2, intE.sz, intE.flat (xs.filter fun x => !p x) ++ rest, ver, true⟩) (r := r) (t := 22) (kd := .i64) (i := i) (n := xs.length) elZ22 (List.getElem?_set_self hr) rfl rfl rfl (by omega)
      rw [hzl] at hsl hcl
      simp only [sb_eq, intE_sz, Nat.mul_one] at hg hsl hcl hsl2
      clear hz hz1 hz2 hfl
      repeat' (first | (refine KV.run _ ?_) | (refine KQ.run _ ?_) | (refine KT.run _ ?_) | (refine AWp.seqH fun KC => ?_) | (refine AWp.block ?_) | (refine AWp.region ?_) | (refine mops_step0 rfl rfl fun KC => ?_) | (refine mops_step1 rfl fun KC => ?_) | (refine mops_step2 rfl fun KC => ?_) | (refine AWp.ret ?_) | (refine AWp.skip ?_) | (refine AWp.exit ?_) | (refine aops_callH rfl fun kC => ?_) | (refine qops_callH rfl fun kC => ?_) | (refine AWp.condB ?_) | (simp only [bse, wk, tys, Nat.reduceEqDiff, ↓reduceIte, reduceCtorEq, Nat.reduceAdd, Nat.reduceLeDiff, Int.reduceBEq, Int.reduceLT, Int.reduceLE, Int.reduceEq, ne_eq, not_false_eq_true, Nat.reduceMul, *]) | (refine condK_bool (fun hb => ?_) (fun hb => ?_) <;> ((try simp only [Bool.not_eq_true', Bool.not_eq_false'] at hb) <;> (try (have hbe := of_decide_eq_true hb)) <;> (try (have hbe := eq_of_beq hb)))) | (refine aops_partB ?_) | (refine qops_partB ?_))
      rw [← hil.out]
      exact ⟨rest, _, rfl, rfl⟩

end Go.BM
