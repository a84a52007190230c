/- NewCluster: the reference. -/
import Derived.Test.YticajcenbhbglaaT51
import Derived.Test.YticajcenbhbglaaC39
import Derived.Test.YticajcenbhbglaaC29
set_option linter.unusedVariables false
set_option linter.unusedSimpArgs false
set_option maxRecDepth 100000
set_option maxHeartbeats 4000000
namespace Go.BM
open Go.Proofs Go.RowKit
attribute [local irreducible] ACalls AWp aops qops optK optP cK gateA condK mops qcallK PCalls loadV fldV idxV lenV slV storeH binS
def newVs (ks : List Int) : List TVoter := ks.map fun k => ⟨k, 0, []⟩
def errC (c : Int) : TClusterResult := ⟨c, ⟨⟨[], 0⟩, [], [], [], [], []⟩⟩
def newClusterF (q : TQuorum) (bad : List Int) (n : Int) : TClusterResult :=
  if !(quorumFault q.keys q.need == 0) then errC (quorumFault q.keys q.need) else if decide ((20 : Int) < (bad.length : Int)) || !inB n 1 4 then errC 2 else if !(badFault bad == 0) then errC (badFault bad)
  else ⟨0, ⟨q, bad, [], newVs (goodL q.keys bad), [], List.replicate n.toNat []⟩⟩
/-- The cells of voters that have chosen nothing. -/
def vC (ks : List Int) : List Value := ks.flatMap fun k => [.int .i64 k, .int .i64 0, .slice none 0 0]
theorem vC_len (ks : List Int) : (vC ks).length = ks.length * 3 := by
  induction ks with
  | nil => rfl
  | cons k l ih =>
    unfold vC at ih ⊢
    simp only [List.flatMap_cons, List.length_append, List.length_cons, List.length_nil, ih]
    omega
theorem vC_app (ks : List Int) (k : Int) : vC (ks ++ [k]) = vC ks ++ [.int .i64 k, .int .i64 0, .slice none 0 0] := by
  unfold vC
  simp
theorem vC_bor (H : AH) (ks : List Int) : BorL H (vC ks) (voterE.flat (newVs ks)) := by
  induction ks with
  | nil => exact .nil
  | cons k l ih => exact .cons (.same _ (.flat _ rfl)) (.cons (.same _ (.flat _ rfl)) (.cons .nil ih))
theorem bor_vs {H : AH} {r ver el : Nat} {sp : Option Nat} {ks : List Int} (h : H[r]? = some ⟨el, 3, vC ks, ver, true⟩) : Bor H (.slice (some ⟨r, 0, sp⟩) ks.length ver) (islE voterE (newVs ks)) := by
  have he : islE voterE (newVs ks) = isl ks.length (voterE.flat (newVs ks)) := by unfold islE newVs; rw [List.length_map]
  rw [he]
  refine Bor.ownL h rfl rfl (fun h0 => ?_) ⟨vC ks, vC_bor H ks, ?_⟩
  · have : ks = [] := List.eq_nil_of_length_eq_zero h0
    subst this
    rfl
  · rw [← (vC_bor H ks).at.1]
    exact List.take_length
theorem app_vN {B : Nat} {H : AH} {r : Nat} {k : Int} (hr : H[r]? = some ⟨53, 3, [.int .i64 k, .int .i64 0, .slice none 0 0], 0, true⟩) :
    appendH Try.prog B H 28 28 (.slice none 0 0) (.slice (some ⟨r, 0, none⟩) 1 0) = some (.slice (some ⟨H.length, 0, none⟩) 1 0, H ++ [⟨53, 3, vC [k], 0, true⟩]) := by
  have hs : srcV Try.prog H 53 3 28 (.slice (some ⟨r, 0, none⟩) 1 0) = some (1, vC [k]) := srcV_own (P := Try.prog) (E := voterE) (H := H) (t := 28) (el := 53) (r := r) (off := 0) (m := 1) (ver := 0) (sp := none) (cs := vC [k]) elZ28 hr rfl rfl rfl (Nat.le_refl _)
  unfold appendH
  rw [elZ28]
  dsimp only
  rw [hs]
  dsimp only
  rw [if_pos zOk28, if_pos ⟨by omega, by omega⟩, if_neg (by omega)]
  rfl
theorem app_vS {B : Nat} {H : AH} {r q ver : Nat} {k : Int} {ys : List Int} (hr : H[r]? = some ⟨53, 3, [.int .i64 k, .int .i64 0, .slice none 0 0], 0, true⟩) (hq : H[q]? = some ⟨53, 3, vC ys, ver, true⟩) (hB : B ≤ q) (hy : ys.length ≤ 1048576) :
    appendH Try.prog B H 28 28 (.slice (some ⟨q, 0, none⟩) ys.length ver) (.slice (some ⟨r, 0, none⟩) 1 0) = some (.slice (some ⟨q, 0, none⟩) (ys.length + 1) (ver + 1), H.set q ⟨53, 3, vC (ys ++ [k]), ver + 1, true⟩) := by
  have hs : srcV Try.prog H 53 3 28 (.slice (some ⟨r, 0, none⟩) 1 0) = some (1, vC [k]) := srcV_own (P := Try.prog) (E := voterE) (H := H) (t := 28) (el := 53) (r := r) (off := 0) (m := 1) (ver := 0) (sp := none) (cs := vC [k]) elZ28 hr rfl rfl rfl (Nat.le_refl _)
  have hl := vC_len ys
  unfold appendH
  simp only [elZ28, hs, zOk28, if_true, hq]
  rw [if_pos ⟨trivial, hB, trivial, trivial, by rw [hl]; exact Nat.le_refl _, by omega, by omega⟩]
  simp only [Option.isSome_none, Bool.false_eq_true, false_and, if_false]
  rw [vC_app, List.take_of_length_le (by rw [hl]; exact Nat.le_refl _)]
  rfl
def dGood (gs : List Int) (bs : List Blk) (F : (Nat → Nat) → Value) : Prop := ∃ ver : Nat, bs = [⟨2, 1, intE.flat gs, ver, true⟩] ∧ F = fun ρ => .slice (some ⟨ρ 0, 0, none⟩) gs.length ver
theorem dGood_sh {gs : List Int} : ∀ bs F, dGood gs bs F → Shp bs F := by
  rintro _ _ ⟨ver, rfl, rfl⟩
  exact Shp.one (intE_flat _) fun N ρ k => .slice 0 0 none _ _ (by decide)
theorem spec_l12GoodF (ks bs : List Int) (need : Int) (hn : ks.length ≤ 1048576) (hb : bs.length ≤ 1048576) : NFun Try.prog 21 [ip [islE intE ks, .int .i64 need], islE intE bs] (dGood (goodL ks bs)) := by
  unfold NFun
  refine ACalls.enter (n := 38) (rs := [.tmp 4]) Try.func21 rfl rfl rfl (by kernel_rfl) (by kernel_rfl) (by kernel_rfl) (Nat.le_of_ble_eq_true rfl) ?_
  repeat' (first | (refine KV.run _ ?_) | (refine KQ.run _ ?_) | (refine KT.run _ ?_) | (refine AWp.seqH fun KC => ?_) | (refine AWp.block ?_) | (refine AWp.region ?_) | (refine mops_step0 rfl rfl fun KC => ?_) | (refine mops_step1 rfl fun KC => ?_) | (refine mops_step2 rfl fun KC => ?_) | (refine AWp.ret ?_) | (refine AWp.skip ?_) | (refine AWp.exit ?_) | (refine aops_callH rfl fun kC => ?_) | (refine qops_callH rfl fun kC => ?_) | (refine AWp.condB ?_) | (simp only [bse, wk, tys, storeH_ptr, Nat.reduceEqDiff, ↓reduceIte, reduceCtorEq, Nat.reduceAdd, Nat.reduceLeDiff, Int.reduceBEq, Int.reduceLT, Int.reduceLE, Int.reduceEq, ne_eq, not_false_eq_true, Nat.reduceMul, quorumE_val, quorumE_sz, sliceE_val, sliceE_sz, clusterE_val, clusterE_sz, clusterResultE_val, clusterResultE_sz, Int.reduceToNat, Int.cast_ofNat_Int, *]) | (refine condK_bool (fun hb => ?_) (fun hb => ?_) <;> ((try simp only [Bool.not_eq_true', Bool.not_eq_false'] at hb) <;> (try (have hbe := of_decide_eq_true hb)) <;> (try (have hbe := eq_of_beq hb)))) | (refine aops_partB ?_) | (refine qops_partB ?_))
  refine AWp.loopH [8, 9, 10, 11, 12, 13, 14, 17, 18, 19, 20, 21, 22, 23, 24, 25, 26, 27, 28, 29, 30, 31, 32, 33, 34, 35, 36, 5, 15, 16, 6] (fun m e' H' => ∃ (k ver : Nat) (ys : List Int) (G : AH), k ≤ ks.length ∧ m = ks.length - k ∧ e' 6 = .int .i64 k ∧ e' 5 = .slice (some ⟨0, 0, none⟩) ys.length ver ∧ ys.length ≤ k ∧ H' = ⟨2, 1, intE.flat ys, ver, true⟩ :: G ∧ Hid (ys = goodL (ks.take k) bs)) ks.length ⟨0, 0, [], [], by omega, by omega, rfl, rfl, by simp, rfl, rfl⟩ ?_
  rintro m e' H' hA ⟨k, ver, ys, G, hk, rfl, e6, e5, hy, rfl, hF⟩ hJ
  have a0 := hA 0 rfl; have a1 := hA 1 rfl; have a4 := hA 4 rfl; try simp only [bse, wk, tys, storeH_ptr, Nat.reduceEqDiff, ↓reduceIte, reduceCtorEq, Nat.reduceAdd, Nat.reduceLeDiff, Int.reduceBEq, Int.reduceLT, Int.reduceLE, Int.reduceEq, ne_eq, not_false_eq_true, Nat.reduceMul] at a0 a1 a4; clear hA
  by_cases hlt : k < ks.length
  · have hlt' : (k : Int) < (ks.length : Int) := by omega
    have hw := wr_succ (k := k) (by omega)
    have hst := goodL_step ks bs k hlt
    rw [← hF.out] at hst
    cases hc : (bs.any fun y => ks[k] == y) with
    | true =>
      have hs : Hid (ys = goodL (ks.take (k + 1)) bs) := by rw [hc] at hst; exact hst.symm
      clear hst hF
      repeat' (first | (refine ACalls.start ?_; first | (refine ACalls.ofJi (spec_l4Among bs _ (by omega)) rfl ?_)) | (refine qcall_start ?_; first | (refine qcallFi (spec_l4Among bs _ (by omega)) rfl ?_ ?_; (focus ((first | exact rfl | (simp [pureV, flatV, quorumE_val, quorumE_sz, sliceE_val, sliceE_sz, clusterE_val, clusterE_sz, clusterResultE_val, clusterResultE_sz, Int.reduceToNat, Int.cast_ofNat_Int]; done)))))) | (refine KV.run _ ?_) | (refine KQ.run _ ?_) | (refine KT.run _ ?_) | (refine AWp.seqH fun KC => ?_) | (refine AWp.block ?_) | (refine AWp.region ?_) | (refine mops_step0 rfl rfl fun KC => ?_) | (refine mops_step1 rfl fun KC => ?_) | (refine mops_step2 rfl fun KC => ?_) | (refine AWp.ret ?_) | (refine AWp.skip ?_) | (refine AWp.exit ?_) | (refine aops_callH rfl fun kC => ?_) | (refine qops_callH rfl fun kC => ?_) | (refine AWp.condB ?_) | (simp only [bse, wk, tys, storeH_ptr, Nat.reduceEqDiff, ↓reduceIte, reduceCtorEq, Nat.reduceAdd, Nat.reduceLeDiff, Int.reduceBEq, Int.reduceLT, Int.reduceLE, Int.reduceEq, ne_eq, not_false_eq_true, Nat.reduceMul, quorumE_val, quorumE_sz, sliceE_val, sliceE_sz, clusterE_val, clusterE_sz, clusterResultE_val, clusterResultE_sz, Int.reduceToNat, Int.cast_ofNat_Int, *]) | (refine condK_bool (fun hb => ?_) (fun hb => ?_) <;> ((try simp only [Bool.not_eq_true', Bool.not_eq_false'] at hb) <;> (try (have hbe := of_decide_eq_true hb)) <;> (try (have hbe := eq_of_beq hb)))) | (refine aops_partB ?_) | (refine qops_partB ?_))
      exact hJ.out _ _ ⟨ks.length - (k + 1), by omega, k + 1, ver, ys, G, by omega, rfl, rfl, by simp [put, e5], by omega, rfl, hs⟩ (by repeat (first | exact Agree.refl _ _ | assumption | refine Agree.put ?_ rfl _))
    | false =>
      have hs : Hid (ys ++ [ks[k]] = goodL (ks.take (k + 1)) bs) := by rw [hc] at hst; exact hst.symm
      clear hst hF
      have hap := appendH_one (P := Try.prog) (B := 0) (E := intE) (H0 := ⟨2, 1, intE.flat ys, ver, true⟩ :: G) (ys := ys) ks[k] elZ22 elZ22 zOk22 (r := 0) rfl (Nat.zero_le _) (by omega) (by omega)
      simp only [List.cons_append, List.length_cons, List.set_cons_succ, List.set_cons_zero, intE_sz, intE_val, cells_int] at hap
      repeat' (first | (refine ACalls.start ?_; first | (refine ACalls.ofJi (spec_l4Among bs _ (by omega)) rfl ?_)) | (refine qcall_start ?_; first | (refine qcallFi (spec_l4Among bs _ (by omega)) rfl ?_ ?_; (focus ((first | exact rfl | (simp [pureV, flatV, quorumE_val, quorumE_sz, sliceE_val, sliceE_sz, clusterE_val, clusterE_sz, clusterResultE_val, clusterResultE_sz, Int.reduceToNat, Int.cast_ofNat_Int]; done)))))) | (refine KV.run _ ?_) | (refine KQ.run _ ?_) | (refine KT.run _ ?_) | (refine AWp.seqH fun KC => ?_) | (refine AWp.block ?_) | (refine AWp.region ?_) | (refine mops_step0 rfl rfl fun KC => ?_) | (refine mops_step1 rfl fun KC => ?_) | (refine mops_step2 rfl fun KC => ?_) | (refine AWp.ret ?_) | (refine AWp.skip ?_) | (refine AWp.exit ?_) | (refine aops_callH rfl fun kC => ?_) | (refine qops_callH rfl fun kC => ?_) | (refine AWp.condB ?_) | (simp only [bse, wk, tys, storeH_ptr, Nat.reduceEqDiff, ↓reduceIte, reduceCtorEq, Nat.reduceAdd, Nat.reduceLeDiff, Int.reduceBEq, Int.reduceLT, Int.reduceLE, Int.reduceEq, ne_eq, not_false_eq_true, Nat.reduceMul, quorumE_val, quorumE_sz, sliceE_val, sliceE_sz, clusterE_val, clusterE_sz, clusterResultE_val, clusterResultE_sz, Int.reduceToNat, Int.cast_ofNat_Int, *]) | (refine condK_bool (fun hb => ?_) (fun hb => ?_) <;> ((try simp only [Bool.not_eq_true', Bool.not_eq_false'] at hb) <;> (try (have hbe := of_decide_eq_true hb)) <;> (try (have hbe := eq_of_beq hb)))) | (refine aops_partB ?_) | (refine qops_partB ?_))
      exact hJ.out _ _ ⟨ks.length - (k + 1), by omega, k + 1, ver + 1, ys ++ [ks[k]], _, by omega, rfl, rfl, by simp [put], by simp; omega, rfl, hs⟩ (by repeat (first | exact Agree.refl _ _ | assumption | refine Agree.put ?_ rfl _))
  · have hlt' : ¬ (k : Int) < (ks.length : Int) := by omega
    have hke : k = ks.length := by omega
    subst hke
    have hs : Hid (ys = goodL ks bs) := by have := hF.out; rw [List.take_length] at this; exact this
    clear hF
    have hs2 := hs.out
    subst hs2
    clear hs
    repeat' (first | (refine KV.run _ ?_) | (refine KQ.run _ ?_) | (refine KT.run _ ?_) | (refine AWp.seqH fun KC => ?_) | (refine AWp.block ?_) | (refine AWp.region ?_) | (refine mops_step0 rfl rfl fun KC => ?_) | (refine mops_step1 rfl fun KC => ?_) | (refine mops_step2 rfl fun KC => ?_) | (refine AWp.ret ?_) | (refine AWp.skip ?_) | (refine AWp.exit ?_) | (refine aops_callH rfl fun kC => ?_) | (refine qops_callH rfl fun kC => ?_) | (refine AWp.condB ?_) | (simp only [bse, wk, tys, storeH_ptr, Nat.reduceEqDiff, ↓reduceIte, reduceCtorEq, Nat.reduceAdd, Nat.reduceLeDiff, Int.reduceBEq, Int.reduceLT, Int.reduceLE, Int.reduceEq, ne_eq, not_false_eq_true, Nat.reduceMul, quorumE_val, quorumE_sz, sliceE_val, sliceE_sz, clusterE_val, clusterE_sz, clusterResultE_val, clusterResultE_sz, Int.reduceToNat, Int.cast_ofNat_Int, *]) | (refine condK_bool (fun hb => ?_) (fun hb => ?_) <;> ((try simp only [Bool.not_eq_true', Bool.not_eq_false'] at hb) <;> (try (have hbe := of_decide_eq_true hb)) <;> (try (have hbe := eq_of_beq hb)))) | (refine aops_partB ?_) | (refine qops_partB ?_))
    exact NFOut.one 0 rfl ⟨ver, rfl, rfl⟩ rfl
theorem spec_l12Err (c : Int) : PCalls Try.prog 18 [.int .i64 c] (clusterResultE.val (errC c)) := by
  unfold errC
  refine PCalls.of ?_; refine ACalls.enter (n := 5) (rs := [.cell 2 34]) Try.func18 rfl rfl rfl (by kernel_rfl) (by kernel_rfl) (by kernel_rfl) (Nat.le_of_ble_eq_true rfl) ?_
  repeat' (first | (refine KV.run _ ?_) | (refine KQ.run _ ?_) | (refine KT.run _ ?_) | (refine AWp.seqH fun KC => ?_) | (refine AWp.block ?_) | (refine AWp.region ?_) | (refine mops_step0 rfl rfl fun KC => ?_) | (refine mops_step1 rfl fun KC => ?_) | (refine mops_step2 rfl fun KC => ?_) | (refine AWp.ret ?_) | (refine AWp.skip ?_) | (refine AWp.exit ?_) | (refine aops_callH rfl fun kC => ?_) | (refine qops_callH rfl fun kC => ?_) | (refine AWp.condB ?_) | (simp only [bse, wk, tys, storeH_ptr, Nat.reduceEqDiff, ↓reduceIte, reduceCtorEq, Nat.reduceAdd, Nat.reduceLeDiff, Int.reduceBEq, Int.reduceLT, Int.reduceLE, Int.reduceEq, ne_eq, not_false_eq_true, Nat.reduceMul, quorumE_val, quorumE_sz, sliceE_val, sliceE_sz, clusterE_val, clusterE_sz, clusterResultE_val, clusterResultE_sz, Int.reduceToNat, Int.cast_ofNat_Int, *]) | (refine condK_bool (fun hb => ?_) (fun hb => ?_) <;> ((try simp only [Bool.not_eq_true', Bool.not_eq_false'] at hb) <;> (try (have hbe := of_decide_eq_true hb)) <;> (try (have hbe := eq_of_beq hb)))) | (refine aops_partB ?_) | (refine qops_partB ?_))
  exact Bor.aggL (.cons (.same _ (.flat _ rfl)) (.cons .nil (.cons (.same _ (.flat _ rfl)) (.cons .nil (.cons .nil (.cons .nil (.cons .nil (.cons .nil .nil))))))))
end Go.BM
