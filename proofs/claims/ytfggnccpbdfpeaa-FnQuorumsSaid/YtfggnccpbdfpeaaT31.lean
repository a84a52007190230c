/- Draws of quorums. -/
import Derived.Test.YtfggnccpbdfpeaaT30
import Derived.Test.YtfggnccpbdfpeaaD1
import Derived.Test.YtfggnccpbdfpeaaC29
set_option linter.unusedVariables false
set_option linter.unusedSimpArgs false
set_option maxRecDepth 100000
set_option maxHeartbeats 4000000
namespace Go.BM
open Go.Proofs Go.RowKit
attribute [local irreducible] ACalls AWp aops qops optK optP cK gateA condK mops qcallK PCalls loadV fldV idxV lenV slV storeH binS
def dKeys (n : Nat) (bs : List Blk) (F : (Nat → Nat) → Value) : Prop := ∃ (xs : List Int) (ver : Nat), xs.length = n ∧ bs = [⟨2, 1, intE.flat xs, ver, true⟩] ∧ F = fun ρ => .slice (some ⟨ρ 0, 0, none⟩) xs.length ver
theorem dKeys_sh {n : Nat} : ∀ bs F, dKeys n bs F → Shp bs F := by
  rintro _ _ ⟨xs, ver, _, rfl, rfl⟩
  exact Shp.one (intE_flat _) fun N ρ k => .slice 0 0 none _ _ (by decide)
theorem spec_l10DrawKeysF (n : Nat) (hn : n ≤ 100) : DFun Try.prog 195 n 141 [.int .i64 n] (dKeys n) := by
  intro code a hcl h0 h1
  unfold ptr0
  refine ACalls.enter (n := 22) (rs := [.tmp 4]) Try.func141 rfl rfl rfl (by kernel_rfl) (by kernel_rfl) (by kernel_rfl) (Nat.le_of_ble_eq_true rfl) ?_
  repeat' (first | (refine KV.run _ ?_) | (refine KQ.run _ ?_) | (refine KT.run _ ?_) | (refine AWp.seqH fun KC => ?_) | (refine AWp.block ?_) | (refine AWp.region ?_) | (refine mops_step0 rfl rfl fun KC => ?_) | (refine mops_step1 rfl fun KC => ?_) | (refine mops_step2 rfl fun KC => ?_) | (refine AWp.ret ?_) | (refine AWp.skip ?_) | (refine AWp.exit ?_) | (refine aops_callH rfl fun kC => ?_) | (refine qops_callH rfl fun kC => ?_) | (refine AWp.condB ?_) | (simp only [bse, wk, tys, storeH_ptr, Nat.reduceEqDiff, ↓reduceIte, reduceCtorEq, Nat.reduceAdd, Nat.reduceLeDiff, Int.reduceBEq, Int.reduceLT, Int.reduceLE, Int.reduceEq, ne_eq, not_false_eq_true, Nat.reduceMul, srcB_eq, Int.reduceToNat, Int.cast_ofNat_Int, quorumE_val, quorumE_sz, *]) | (refine condK_bool (fun hb => ?_) (fun hb => ?_) <;> ((try simp only [Bool.not_eq_true', Bool.not_eq_false'] at hb) <;> (try (have hbe := of_decide_eq_true hb)) <;> (try (have hbe := eq_of_beq hb)))) | (refine aops_partB ?_) | (refine qops_partB ?_))
  refine AWp.loopH [8, 9, 12, 13, 14, 15, 16, 6, 17, 18, 19, 20, 5, 10, 11, 1] (fun m e' H' => ∃ (a1 at' : Int) (ys : List Int) (ver : Nat) (G : AH), e' 1 = .int .i64 m ∧ e' 6 = .int .i64 at' ∧ e' 5 = .slice (some ⟨1, 0, none⟩) ys.length ver ∧ ys.length + m = n ∧ a ≤ a1 ∧ a1 ≤ a + (ys.length : Nat) ∧ H' = srcB 195 code a1 :: ⟨2, 1, intE.flat ys, ver, true⟩ :: G) n ⟨a, 0, [], 0, [], rfl, rfl, rfl, by simp, by omega, by simp, rfl⟩ ?_
  rintro m e' H' hA ⟨a1, at', ys, ver, G, e1, e6, e5, hyk, ha1, ha2, rfl⟩ hJ
  have a0 := hA 0 rfl; have a4 := hA 4 rfl; try simp only [bse, wk, tys, storeH_ptr, Nat.reduceEqDiff, ↓reduceIte, reduceCtorEq, Nat.reduceAdd, Nat.reduceLeDiff, Int.reduceBEq, Int.reduceLT, Int.reduceLE, Int.reduceEq, ne_eq, not_false_eq_true, Nat.reduceMul] at a0 a4; clear hA
  by_cases hlt : 0 < m
  · have hlt' : (0 : Int) < (m : Int) := by omega
    have hw : IntKind.i64.wrap ((m : Int) - 1) = ((m - 1 : Nat) : Int) := by rw [wr] <;> omega
    have hap := fun (b0 : Blk) (y : Int) => appendH_one (P := Try.prog) (B := 0) (E := intE) (H0 := b0 :: ⟨2, 1, intE.flat ys, ver, true⟩ :: G) (ys := ys) y elZ25 elZ25 zOk25 (r := 1) rfl (Nat.zero_le _) (by omega) (by omega)
    simp only [List.cons_append, List.length_cons, List.set_cons_succ, List.set_cons_zero, intE_sz, intE_val, cells_int] at hap
    repeat' (first | (refine ACalls.start ?_; first | (refine ACalls.get ((spec_l1Next 3 (by omega)).val rfl (Nat.zero_le _) (by repeat' (first | exact Im.nilL | refine Im.consL ?_ ?_ | refine Im.appL ?_ ?_ | exact Im.flat _ rfl | exact islE_im _ _ | exact Enc.val_im _ _ | assumption | refine Im.aggL ?_ | refine Im.funcL ?_ | refine Im.funcA ?_ | refine Im.isl ?_ | refine Im.ip ?_)) hcl (by omega) (by omega)) (by first | exact Nat.le_refl _ | exact Nat.zero_le _ | (simp only [List.length_append, List.length_cons, List.length_nil]; omega) | (simp only [List.length_set]; omega) | omega) (by first | exact Nat.le_refl _ | exact Nat.zero_le _ | (simp only [List.length_append, List.length_cons, List.length_nil]; omega) | (simp only [List.length_set]; omega) | omega) ?_; rintro _ _ ⟨a2, ⟨q, rfl, hq0, hq1⟩, _, ha3, ha4, rfl⟩)) | (refine KV.run _ ?_) | (refine KQ.run _ ?_) | (refine KT.run _ ?_) | (refine AWp.seqH fun KC => ?_) | (refine AWp.block ?_) | (refine AWp.region ?_) | (refine mops_step0 rfl rfl fun KC => ?_) | (refine mops_step1 rfl fun KC => ?_) | (refine mops_step2 rfl fun KC => ?_) | (refine AWp.ret ?_) | (refine AWp.skip ?_) | (refine AWp.exit ?_) | (refine aops_callH rfl fun kC => ?_) | (refine qops_callH rfl fun kC => ?_) | (refine AWp.condB ?_) | (simp only [bse, wk, tys, storeH_ptr, Nat.reduceEqDiff, ↓reduceIte, reduceCtorEq, Nat.reduceAdd, Nat.reduceLeDiff, Int.reduceBEq, Int.reduceLT, Int.reduceLE, Int.reduceEq, ne_eq, not_false_eq_true, Nat.reduceMul, srcB_eq, Int.reduceToNat, Int.cast_ofNat_Int, quorumE_val, quorumE_sz, *]) | (refine condK_bool (fun hb => ?_) (fun hb => ?_) <;> ((try simp only [Bool.not_eq_true', Bool.not_eq_false'] at hb) <;> (try (have hbe := of_decide_eq_true hb)) <;> (try (have hbe := eq_of_beq hb)))) | (refine aops_partB ?_) | (refine qops_partB ?_))
    refine hJ.out _ _ ⟨m - 1, by omega, a2, _, ys ++ [_], ver + 1, _, rfl, rfl, ?_, ?_, by omega, ?_, rfl⟩ (by repeat (first | exact Agree.refl _ _ | assumption | refine Agree.put ?_ rfl _))
    · simp [put]
    · simp; omega
    · simp; omega
  · have hlt' : ¬ (0 : Int) < (m : Int) := by omega
    have : m = 0 := by omega
    subst this
    repeat' (first | (refine KV.run _ ?_) | (refine KQ.run _ ?_) | (refine KT.run _ ?_) | (refine AWp.seqH fun KC => ?_) | (refine AWp.block ?_) | (refine AWp.region ?_) | (refine mops_step0 rfl rfl fun KC => ?_) | (refine mops_step1 rfl fun KC => ?_) | (refine mops_step2 rfl fun KC => ?_) | (refine AWp.ret ?_) | (refine AWp.skip ?_) | (refine AWp.exit ?_) | (refine aops_callH rfl fun kC => ?_) | (refine qops_callH rfl fun kC => ?_) | (refine AWp.condB ?_) | (simp only [bse, wk, tys, storeH_ptr, Nat.reduceEqDiff, ↓reduceIte, reduceCtorEq, Nat.reduceAdd, Nat.reduceLeDiff, Int.reduceBEq, Int.reduceLT, Int.reduceLE, Int.reduceEq, ne_eq, not_false_eq_true, Nat.reduceMul, srcB_eq, Int.reduceToNat, Int.cast_ofNat_Int, quorumE_val, quorumE_sz, *]) | (refine condK_bool (fun hb => ?_) (fun hb => ?_) <;> ((try simp only [Bool.not_eq_true', Bool.not_eq_false'] at hb) <;> (try (have hbe := of_decide_eq_true hb)) <;> (try (have hbe := eq_of_beq hb)))) | (refine aops_partB ?_) | (refine qops_partB ?_))
    exact DFOut.one a1 1 rfl rfl ⟨ys, ver, by omega, rfl, rfl⟩ rfl (by decide) ha1 (by omega)
def dQuorum (n : Nat) (bs : List Blk) (F : (Nat → Nat) → Value) : Prop := (∃ (xs : List Int) (ver : Nat) (need : Int), xs.length ≤ n ∧ bs = [⟨2, 1, intE.flat xs, ver, true⟩] ∧ F = fun ρ => .agg #[.slice (some ⟨ρ 0, 0, none⟩) xs.length ver, .int .i64 need]) ∨ ∃ need : Int, bs = [] ∧ F = fun _ => .agg #[.slice none 0 0, .int .i64 need]
theorem dQuorum_sh {n : Nat} : ∀ bs F, dQuorum n bs F → Shp bs F := by
  rintro _ _ (⟨xs, ver, need, _, rfl, rfl⟩ | ⟨need, rfl, rfl⟩)
  · exact Shp.one (intE_flat _) fun N ρ k => LifL.aggL (.cons (.slice 0 0 none _ _ (by decide)) (.cons (.flat _ rfl) .nil))
  · exact Shp.none fun N ρ k => LifL.aggL (.cons .nil (.cons (.flat _ rfl) .nil))
theorem spec_l10DrawKeys (n : Nat) (hn : n ≤ 100) : DCalls Try.prog 195 n 141 [.int .i64 n] (fun v => ∃ xs : List Int, v = islE intE xs ∧ xs.length = n) :=
  (spec_l10DrawKeysF n hn).calls fun bs F h => by
    obtain ⟨xs, ver, hx, rfl, rfl⟩ := h
    exact ⟨_, ⟨xs, rfl, hx⟩, fun N ρ hb => OwnL.slE (E := intE) (hb 0 (by simp)) (fun _ => rfl) rfl (intE_flat _)⟩
end Go.BM
