/- FnRules: the card. Packed: X5, X6, X7, RB, K12, LFnRules. -/
import Derived.Test.YtegjjdhgffnkhaaGreatDoorRows
import Derived.SizedLaws
import Derived.Handed
import Derived.LaidMore
import Derived.OpenShut
import Derived.Stop.LaidErr
import Derived.Shelf.Vars
import Derived.Lib.LaidTab
import Derived.Test.YtegjjdhgffnkhaaGreatDoorCards
import Derived.Test.YtegjjdhgffnkhaaGreatDoorTie
import Derived.SevenTiedAt
import Derived.Lay
import Derived.WalkKit
import Derived.ProofKit
import Derived.Test.YtegjjdhgffnkhaaGreatDoorZ1
import Derived.Test.YtegjjdhgffnkhaaGreatDoorZ2
import Derived.Test.YtegjjdhgffnkhaaGreatDoorZ3
import Derived.Test.YtegjjdhgffnkhaaGreatDoorZ4
import Derived.Test.YtegjjdhgffnkhaaGreatDoorZ7
import Derived.Test.YtegjjdhgffnkhaaGreatDoorZ9
/- The draw of ParseRule: a right rule's text, one letter changed, or cut short. -/
set_option linter.unusedVariables false
set_option linter.unusedSimpArgs false
set_option maxRecDepth 100000
set_option maxHeartbeats 4000000
namespace Go.BM
open Go.Proofs Go.RowKit
attribute [local irreducible] ACalls AWp aops qops optK optP cK gateA condK mops qcallK PCalls loadV fldV idxV lenV slV storeH binS
theorem undS : Tryz.prog.underlying 9 = some .string := by kernel_rfl
theorem undB : Tryz.prog.underlying 22 = some (.slice 5) := by kernel_rfl
theorem undU : Tryz.prog.underlying 5 = some (.int .u8) := by kernel_rfl
theorem bytesV_byteCs : ∀ l : List UInt8, bytesV (byteCs l) = some l
  | [] => rfl
  | b :: l => by
    show bytesV (.int .u8 (b.toNat : Int) :: byteCs l) = _
    rw [bytesV_cons, bytesV_byteCs l]
    simp
theorem byteCs_len (l : List UInt8) : (byteCs l).length = l.length := by simp [byteCs]
theorem byteCs_take (l : List UInt8) (n : Nat) : (byteCs l).take n = byteCs (l.take n) := by simp [byteCs, List.map_take]
theorem ruleT_le {r : TRule} (hr : ruleFault r.keys r.need r.after = 0) : (ruleT 32 r).length ≤ 300 ∧ 1 ≤ (ruleT 32 r).length := by
  have := ruleT_len 32 hr
  refine ⟨by omega, ?_⟩
  unfold ruleT
  simp
  omega
theorem bytesBlk_bs (e : TypeId) (W : List UInt8) : bytesBlk e (bs W) = ⟨e, 1, byteCs W, 0, true⟩ := by simp [bytesBlk]
theorem l1X (n : Nat) (h1 : 1 ≤ n) (hn : n ≤ 4611686018427387904) : DCalls Tryz.prog 74 1 19 [.int .i64 (n : Int)] (fun v => ∃ k : Nat, v = .int .i64 (k : Int) ∧ k < n ∧ (k : Int) < (n : Int) ∧ (k : Int) ≤ (n : Int) ∧ k + 1 ≤ n ∧ k ≤ n) :=
  (spec_l1NextI n h1 hn).mono fun v ⟨k, e, h⟩ => ⟨k, e, h, by omega, by omega, by omega, by omega⟩
theorem pickB {B r q n : Nat} {H : AH} {code : List UInt8} {a : Int} {cs : List Value} (hr : H[r]? = some (srcB 74 code a)) (hB : B ≤ r) (hq : H[q]? = some ⟨2, 1, cs, 0, true⟩) (hcs : ∃ xs : List Int, 0 < xs.length ∧ xs.length ≤ 1000 ∧ n = xs.length ∧ cs = intE.flat xs ∧ ∀ x ∈ xs, 0 ≤ x ∧ x ≤ 255) (hne : q ≠ r)
    (hcl : code.length ≤ 1048576) (h0 : 0 ≤ a) (h1 : a + 1 ≤ 1000000) : ACalls Tryz.prog B 20 [.pointer (some ⟨r, 0, some 0⟩), .slice (some ⟨q, 0, none⟩) n 0] H fun d H' => ∃ (b : UInt8) (a' : Int), d = .int .i64 b.toNat ∧ IntKind.u8.wrap (b.toNat : Int) = b.toNat ∧ a ≤ a' ∧ a' ≤ a + 1 ∧ H' = H.set r (srcB 74 code a') := by
  obtain ⟨xs, hx, hl, rfl, hcs, hall⟩ := hcs
  refine (spec_l1Pick xs hx hl hr hB hq hcs hne hcl h0 h1).mono fun d H' ⟨k, a', e1, hm, e2, e3, e4⟩ => ?_
  obtain ⟨g1, g2⟩ := hall k hm
  have hk : ((UInt8.ofNat k.toNat).toNat : Int) = k := by
    have : (UInt8.ofNat k.toNat).toNat = k.toNat := by simp; omega
    rw [this, Int.toNat_of_nonneg g1]
  exact ⟨UInt8.ofNat k.toNat, a', by rw [hk]; exact e1, by rw [hk, IntKind.wrap_u8]; omega, e2, e3, e4⟩
theorem byteCs_drop (l : List UInt8) (n : Nat) : (byteCs l).drop n = byteCs (l.drop n) := by simp [byteCs, List.map_drop]
theorem byteCs_cons (b : UInt8) (l : List UInt8) : Value.int .u8 (b.toNat : Int) :: byteCs l = byteCs (b :: l) := rfl
theorem byteCs_app (l m : List UInt8) : byteCs l ++ byteCs m = byteCs (l ++ m) := by simp [byteCs]
theorem cut_len {W : List UInt8} {k : Nat} (h : k < W.length) (b : UInt8) : (W.take k ++ b :: W.drop (k + 1)).length = W.length := by simp; omega
theorem spec_DrawParseRule (code : List UInt8) (hcl : code.length ≤ 1048576) : ECalls Tryz.prog 8 [islE byteE code] (fun v => ∃ s : List UInt8, v = .string (bs s) ∧ s.length ≤ 300) := by
  unfold ECalls
  refine ACalls.enter (n := 36) (rs := [.tmp 2]) Tryz.func8 rfl rfl rfl (by kernel_rfl) (by kernel_rfl) (by kernel_rfl) (Nat.le_of_ble_eq_true rfl) ?_
  repeat' (first | (refine ACalls.start ?_; first | (refine ACalls.get (spec_l1Source _ code) (by first | exact Nat.le_refl _ | exact Nat.zero_le _ | (simp only [List.length_append, List.length_cons, List.length_nil]; omega) | (simp only [List.length_set]; omega) | omega) (by first | exact Nat.le_refl _ | exact Nat.zero_le _ | (simp only [List.length_append, List.length_cons, List.length_nil]; omega) | (simp only [List.length_set]; omega) | omega) ?_; rintro _ _ ⟨rfl, rfl⟩)) | (refine KV.run _ ?_) | (refine KQ.run _ ?_) | (refine KT.run _ ?_) | (refine AWp.seqH fun KC => ?_) | (refine AWp.block ?_) | (refine AWp.region ?_) | (refine mops_step0 rfl rfl fun KC => ?_) | (refine mops_step1 rfl fun KC => ?_) | (refine mops_step2 rfl fun KC => ?_) | (refine AWp.ret ?_) | (refine AWp.skip ?_) | (refine AWp.exit ?_) | (refine aops_callH rfl fun kC => ?_) | (refine qops_callH rfl fun kC => ?_) | (refine AWp.condB ?_) | (simp only [bse, wk, tys, storeH_ptr, Nat.reduceEqDiff, ↓reduceIte, reduceCtorEq, Nat.reduceAdd, Nat.reduceLeDiff, Int.reduceBEq, Int.reduceLT, Int.reduceLE, Int.reduceEq, ne_eq, not_false_eq_true, Nat.reduceMul, byteCs_len, byteCs_take, byteCs_drop, byteCs_cons, byteCs_app, bytesV_byteCs, Option.map_some, Nat.le_refl, *]) | (refine condK_bool (fun hb => ?_) (fun hb => ?_) <;> ((try simp only [Bool.not_eq_true', Bool.not_eq_false'] at hb) <;> (try (have hbe := of_decide_eq_true hb)) <;> (try (have hbe := eq_of_beq hb)))) | (refine aops_partB ?_) | (refine qops_partB ?_))
  refine ACalls.get (spec_l2DrawF.use (r := 0) dRul_sh rfl (Nat.zero_le _) (by repeat' (first | exact Im.nilL | refine Im.consL ?_ ?_ | refine Im.appL ?_ ?_ | exact Im.flat _ rfl | exact islE_im _ _ | exact Enc.val_im _ _ | assumption | refine Im.aggL ?_ | refine Im.funcL ?_ | refine Im.funcA ?_ | refine Im.isl ?_ | refine Im.ip ?_)) hcl (by omega) (by omega)) (by first | exact Nat.le_refl _ | exact Nat.zero_le _ | (simp only [List.length_append, List.length_cons, List.length_nil]; omega) | (simp only [List.length_set]; omega) | omega) (by first | exact Nat.le_refl _ | exact Nat.zero_le _ | (simp only [List.length_append, List.length_cons, List.length_nil]; omega) | (simp only [List.length_set]; omega) | omega) ?_
  rintro _ _ ⟨_, _, a2, ⟨ks, ver, need, after, hrf, rfl, rfl⟩, ha3, ha4, rfl, rfl⟩
  have hT := spec_l2Text ⟨ks, need, after⟩ hrf
  obtain ⟨hTl, hT1⟩ := ruleT_le (r := ⟨ks, need, after⟩) hrf
  dsimp only at hT
  generalize ruleT 32 ⟨ks, need, after⟩ = W at hT hTl hT1
  clear hrf
  repeat' (first | (refine AWp.regionB (id := 3) [_] [_] _ _ _ _ _ _ _ _ _ rfl undS undB undU ?_) | (refine ACalls.start ?_; first | (refine ACalls.ofP (hT) ?_ ?_ ?_; (focus ((repeat' (first | exact BorL.nil | refine BorL.cons ?_ ?_ | exact Bor.same _ (by repeat' (first | exact Im.nilL | refine Im.consL ?_ ?_ | refine Im.appL ?_ ?_ | exact Im.flat _ rfl | exact islE_im _ _ | exact Enc.val_im _ _ | assumption | refine Im.aggL ?_ | refine Im.funcL ?_ | refine Im.funcA ?_ | refine Im.isl ?_ | refine Im.ip ?_)) | exact Bor.nil | exact Bor.sb (by first | (simp only [bse, wk, tys, storeH_ptr, Nat.reduceEqDiff, ↓reduceIte, reduceCtorEq, Nat.reduceAdd, Nat.reduceLeDiff, Int.reduceBEq, Int.reduceLT, Int.reduceLE, Int.reduceEq, ne_eq, not_false_eq_true, Nat.reduceMul, byteCs_len, byteCs_take, byteCs_drop, byteCs_cons, byteCs_app, bytesV_byteCs, Option.map_some, Nat.le_refl]; exact rfl) | (simp only [bse, wk, tys, storeH_ptr, Nat.reduceEqDiff, ↓reduceIte, reduceCtorEq, Nat.reduceAdd, Nat.reduceLeDiff, Int.reduceBEq, Int.reduceLT, Int.reduceLE, Int.reduceEq, ne_eq, not_false_eq_true, Nat.reduceMul, byteCs_len, byteCs_take, byteCs_drop, byteCs_cons, byteCs_app, bytesV_byteCs, Option.map_some, Nat.le_refl]; done) | (simp only [bse, wk, tys, storeH_ptr, Nat.reduceEqDiff, ↓reduceIte, reduceCtorEq, Nat.reduceAdd, Nat.reduceLeDiff, Int.reduceBEq, Int.reduceLT, Int.reduceLE, Int.reduceEq, ne_eq, not_false_eq_true, Nat.reduceMul, byteCs_len, byteCs_take, byteCs_drop, byteCs_cons, byteCs_app, bytesV_byteCs, Option.map_some, Nat.le_refl, *]; done)) (by first | exact fun _ => rfl | assumption | (intros; omega)) rfl | exact Bor.mks (by first | (simp only [bse, wk, tys, storeH_ptr, Nat.reduceEqDiff, ↓reduceIte, reduceCtorEq, Nat.reduceAdd, Nat.reduceLeDiff, Int.reduceBEq, Int.reduceLT, Int.reduceLE, Int.reduceEq, ne_eq, not_false_eq_true, Nat.reduceMul, byteCs_len, byteCs_take, byteCs_drop, byteCs_cons, byteCs_app, bytesV_byteCs, Option.map_some, Nat.le_refl]; exact rfl) | (simp only [bse, wk, tys, storeH_ptr, Nat.reduceEqDiff, ↓reduceIte, reduceCtorEq, Nat.reduceAdd, Nat.reduceLeDiff, Int.reduceBEq, Int.reduceLT, Int.reduceLE, Int.reduceEq, ne_eq, not_false_eq_true, Nat.reduceMul, byteCs_len, byteCs_take, byteCs_drop, byteCs_cons, byteCs_app, bytesV_byteCs, Option.map_some, Nat.le_refl]; done) | (simp only [bse, wk, tys, storeH_ptr, Nat.reduceEqDiff, ↓reduceIte, reduceCtorEq, Nat.reduceAdd, Nat.reduceLeDiff, Int.reduceBEq, Int.reduceLT, Int.reduceLE, Int.reduceEq, ne_eq, not_false_eq_true, Nat.reduceMul, byteCs_len, byteCs_take, byteCs_drop, byteCs_cons, byteCs_app, bytesV_byteCs, Option.map_some, Nat.le_refl, *]; done)) (by first | exact fun _ => rfl | assumption | (intros; omega)) (by intros; omega) | refine Bor.ptrL (by first | (simp only [bse, wk, tys, storeH_ptr, Nat.reduceEqDiff, ↓reduceIte, reduceCtorEq, Nat.reduceAdd, Nat.reduceLeDiff, Int.reduceBEq, Int.reduceLT, Int.reduceLE, Int.reduceEq, ne_eq, not_false_eq_true, Nat.reduceMul, byteCs_len, byteCs_take, byteCs_drop, byteCs_cons, byteCs_app, bytesV_byteCs, Option.map_some, Nat.le_refl]; exact rfl) | (simp only [bse, wk, tys, storeH_ptr, Nat.reduceEqDiff, ↓reduceIte, reduceCtorEq, Nat.reduceAdd, Nat.reduceLeDiff, Int.reduceBEq, Int.reduceLT, Int.reduceLE, Int.reduceEq, ne_eq, not_false_eq_true, Nat.reduceMul, byteCs_len, byteCs_take, byteCs_drop, byteCs_cons, byteCs_app, bytesV_byteCs, Option.map_some, Nat.le_refl]; done) | (simp only [bse, wk, tys, storeH_ptr, Nat.reduceEqDiff, ↓reduceIte, reduceCtorEq, Nat.reduceAdd, Nat.reduceLeDiff, Int.reduceBEq, Int.reduceLT, Int.reduceLE, Int.reduceEq, ne_eq, not_false_eq_true, Nat.reduceMul, byteCs_len, byteCs_take, byteCs_drop, byteCs_cons, byteCs_app, bytesV_byteCs, Option.map_some, Nat.le_refl, *]; done)) rfl rfl ⟨_, ?_, (by first | (simp only [bse, wk, tys, storeH_ptr, Nat.reduceEqDiff, ↓reduceIte, reduceCtorEq, Nat.reduceAdd, Nat.reduceLeDiff, Int.reduceBEq, Int.reduceLT, Int.reduceLE, Int.reduceEq, ne_eq, not_false_eq_true, Nat.reduceMul, byteCs_len, byteCs_take, byteCs_drop, byteCs_cons, byteCs_app, bytesV_byteCs, Option.map_some, Nat.le_refl]; exact rfl) | (simp only [bse, wk, tys, storeH_ptr, Nat.reduceEqDiff, ↓reduceIte, reduceCtorEq, Nat.reduceAdd, Nat.reduceLeDiff, Int.reduceBEq, Int.reduceLT, Int.reduceLE, Int.reduceEq, ne_eq, not_false_eq_true, Nat.reduceMul, byteCs_len, byteCs_take, byteCs_drop, byteCs_cons, byteCs_app, bytesV_byteCs, Option.map_some, Nat.le_refl]; done) | (simp only [bse, wk, tys, storeH_ptr, Nat.reduceEqDiff, ↓reduceIte, reduceCtorEq, Nat.reduceAdd, Nat.reduceLeDiff, Int.reduceBEq, Int.reduceLT, Int.reduceLE, Int.reduceEq, ne_eq, not_false_eq_true, Nat.reduceMul, byteCs_len, byteCs_take, byteCs_drop, byteCs_cons, byteCs_app, bytesV_byteCs, Option.map_some, Nat.le_refl, *]; done))⟩ (by simp) | refine Bor.aggL ?_ | refine Bor.funcL ?_)); done)); (focus ((first | exact rfl | (simp [pureV, flatV, byteCs_len, byteCs_take, byteCs_drop, byteCs_cons, byteCs_app, bytesV_byteCs, Option.map_some, Nat.le_refl]; done)))))) | (refine qcall_start ?_; first | (refine qcallP (hT) ?_ ?_ ?_; (focus ((repeat' (first | exact BorL.nil | refine BorL.cons ?_ ?_ | exact Bor.same _ (by repeat' (first | exact Im.nilL | refine Im.consL ?_ ?_ | refine Im.appL ?_ ?_ | exact Im.flat _ rfl | exact islE_im _ _ | exact Enc.val_im _ _ | assumption | refine Im.aggL ?_ | refine Im.funcL ?_ | refine Im.funcA ?_ | refine Im.isl ?_ | refine Im.ip ?_)) | exact Bor.nil | exact Bor.sb (by first | (simp only [bse, wk, tys, storeH_ptr, Nat.reduceEqDiff, ↓reduceIte, reduceCtorEq, Nat.reduceAdd, Nat.reduceLeDiff, Int.reduceBEq, Int.reduceLT, Int.reduceLE, Int.reduceEq, ne_eq, not_false_eq_true, Nat.reduceMul, byteCs_len, byteCs_take, byteCs_drop, byteCs_cons, byteCs_app, bytesV_byteCs, Option.map_some, Nat.le_refl]; exact rfl) | (simp only [bse, wk, tys, storeH_ptr, Nat.reduceEqDiff, ↓reduceIte, reduceCtorEq, Nat.reduceAdd, Nat.reduceLeDiff, Int.reduceBEq, Int.reduceLT, Int.reduceLE, Int.reduceEq, ne_eq, not_false_eq_true, Nat.reduceMul, byteCs_len, byteCs_take, byteCs_drop, byteCs_cons, byteCs_app, bytesV_byteCs, Option.map_some, Nat.le_refl]; done) | (simp only [bse, wk, tys, storeH_ptr, Nat.reduceEqDiff, ↓reduceIte, reduceCtorEq, Nat.reduceAdd, Nat.reduceLeDiff, Int.reduceBEq, Int.reduceLT, Int.reduceLE, Int.reduceEq, ne_eq, not_false_eq_true, Nat.reduceMul, byteCs_len, byteCs_take, byteCs_drop, byteCs_cons, byteCs_app, bytesV_byteCs, Option.map_some, Nat.le_refl, *]; done)) (by first | exact fun _ => rfl | assumption | (intros; omega)) rfl | exact Bor.mks (by first | (simp only [bse, wk, tys, storeH_ptr, Nat.reduceEqDiff, ↓reduceIte, reduceCtorEq, Nat.reduceAdd, Nat.reduceLeDiff, Int.reduceBEq, Int.reduceLT, Int.reduceLE, Int.reduceEq, ne_eq, not_false_eq_true, Nat.reduceMul, byteCs_len, byteCs_take, byteCs_drop, byteCs_cons, byteCs_app, bytesV_byteCs, Option.map_some, Nat.le_refl]; exact rfl) | (simp only [bse, wk, tys, storeH_ptr, Nat.reduceEqDiff, ↓reduceIte, reduceCtorEq, Nat.reduceAdd, Nat.reduceLeDiff, Int.reduceBEq, Int.reduceLT, Int.reduceLE, Int.reduceEq, ne_eq, not_false_eq_true, Nat.reduceMul, byteCs_len, byteCs_take, byteCs_drop, byteCs_cons, byteCs_app, bytesV_byteCs, Option.map_some, Nat.le_refl]; done) | (simp only [bse, wk, tys, storeH_ptr, Nat.reduceEqDiff, ↓reduceIte, reduceCtorEq, Nat.reduceAdd, Nat.reduceLeDiff, Int.reduceBEq, Int.reduceLT, Int.reduceLE, Int.reduceEq, ne_eq, not_false_eq_true, Nat.reduceMul, byteCs_len, byteCs_take, byteCs_drop, byteCs_cons, byteCs_app, bytesV_byteCs, Option.map_some, Nat.le_refl, *]; done)) (by first | exact fun _ => rfl | assumption | (intros; omega)) (by intros; omega) | refine Bor.ptrL (by first | (simp only [bse, wk, tys, storeH_ptr, Nat.reduceEqDiff, ↓reduceIte, reduceCtorEq, Nat.reduceAdd, Nat.reduceLeDiff, Int.reduceBEq, Int.reduceLT, Int.reduceLE, Int.reduceEq, ne_eq, not_false_eq_true, Nat.reduceMul, byteCs_len, byteCs_take, byteCs_drop, byteCs_cons, byteCs_app, bytesV_byteCs, Option.map_some, Nat.le_refl]; exact rfl) | (simp only [bse, wk, tys, storeH_ptr, Nat.reduceEqDiff, ↓reduceIte, reduceCtorEq, Nat.reduceAdd, Nat.reduceLeDiff, Int.reduceBEq, Int.reduceLT, Int.reduceLE, Int.reduceEq, ne_eq, not_false_eq_true, Nat.reduceMul, byteCs_len, byteCs_take, byteCs_drop, byteCs_cons, byteCs_app, bytesV_byteCs, Option.map_some, Nat.le_refl]; done) | (simp only [bse, wk, tys, storeH_ptr, Nat.reduceEqDiff, ↓reduceIte, reduceCtorEq, Nat.reduceAdd, Nat.reduceLeDiff, Int.reduceBEq, Int.reduceLT, Int.reduceLE, Int.reduceEq, ne_eq, not_false_eq_true, Nat.reduceMul, byteCs_len, byteCs_take, byteCs_drop, byteCs_cons, byteCs_app, bytesV_byteCs, Option.map_some, Nat.le_refl, *]; done)) rfl rfl ⟨_, ?_, (by first | (simp only [bse, wk, tys, storeH_ptr, Nat.reduceEqDiff, ↓reduceIte, reduceCtorEq, Nat.reduceAdd, Nat.reduceLeDiff, Int.reduceBEq, Int.reduceLT, Int.reduceLE, Int.reduceEq, ne_eq, not_false_eq_true, Nat.reduceMul, byteCs_len, byteCs_take, byteCs_drop, byteCs_cons, byteCs_app, bytesV_byteCs, Option.map_some, Nat.le_refl]; exact rfl) | (simp only [bse, wk, tys, storeH_ptr, Nat.reduceEqDiff, ↓reduceIte, reduceCtorEq, Nat.reduceAdd, Nat.reduceLeDiff, Int.reduceBEq, Int.reduceLT, Int.reduceLE, Int.reduceEq, ne_eq, not_false_eq_true, Nat.reduceMul, byteCs_len, byteCs_take, byteCs_drop, byteCs_cons, byteCs_app, bytesV_byteCs, Option.map_some, Nat.le_refl]; done) | (simp only [bse, wk, tys, storeH_ptr, Nat.reduceEqDiff, ↓reduceIte, reduceCtorEq, Nat.reduceAdd, Nat.reduceLeDiff, Int.reduceBEq, Int.reduceLT, Int.reduceLE, Int.reduceEq, ne_eq, not_false_eq_true, Nat.reduceMul, byteCs_len, byteCs_take, byteCs_drop, byteCs_cons, byteCs_app, bytesV_byteCs, Option.map_some, Nat.le_refl, *]; done))⟩ (by simp) | refine Bor.aggL ?_ | refine Bor.funcL ?_)); done)); (focus ((first | exact rfl | (simp [pureV, flatV, byteCs_len, byteCs_take, byteCs_drop, byteCs_cons, byteCs_app, bytesV_byteCs, Option.map_some, Nat.le_refl]; done)))))) | (refine KV.run _ ?_) | (refine KQ.run _ ?_) | (refine KT.run _ ?_) | (refine AWp.seqH fun KC => ?_) | (refine AWp.block ?_) | (refine AWp.region ?_) | (refine mops_step0 rfl rfl fun KC => ?_) | (refine mops_step1 rfl fun KC => ?_) | (refine mops_step2 rfl fun KC => ?_) | (refine AWp.ret ?_) | (refine AWp.skip ?_) | (refine AWp.exit ?_) | (refine aops_callH rfl fun kC => ?_) | (refine qops_callH rfl fun kC => ?_) | (refine AWp.condB ?_) | (simp only [bse, wk, tys, storeH_ptr, Nat.reduceEqDiff, ↓reduceIte, reduceCtorEq, Nat.reduceAdd, Nat.reduceLeDiff, Int.reduceBEq, Int.reduceLT, Int.reduceLE, Int.reduceEq, ne_eq, not_false_eq_true, Nat.reduceMul, byteCs_len, byteCs_take, byteCs_drop, byteCs_cons, byteCs_app, bytesV_byteCs, Option.map_some, Nat.le_refl, *]) | (refine condK_bool (fun hb => ?_) (fun hb => ?_) <;> ((try simp only [Bool.not_eq_true', Bool.not_eq_false'] at hb) <;> (try (have hbe := of_decide_eq_true hb)) <;> (try (have hbe := eq_of_beq hb)))) | (refine aops_partB ?_) | (refine qops_partB ?_))
  refine ⟨bs W, rfl, by rw [bs_size]; unfold maxLen; omega, ?_⟩
  rw [bs_size, bytesBlk_bs]
  clear hT
  have hsl := fun (b0 b1 b2 : Blk) (j : Nat) (hj : j ≤ W.length) => slV_ownHi (P := Tryz.prog) (H := [b0, b1, b2, ⟨5, 1, byteCs W, 0, true⟩]) (E := byteE) (kd := .i64) (i := j) elZ22 (r := 3) rfl rfl rfl rfl hj
  have hcl2 := fun (k : Nat) (b : UInt8) (hk : k < W.length) => cut_len hk b
  repeat' (first | (refine ACalls.start ?_; first | (refine ACalls.get ((l1X W.length (by omega) (by omega)).val rfl (Nat.zero_le _) (by repeat' (first | exact Im.nilL | refine Im.consL ?_ ?_ | refine Im.appL ?_ ?_ | exact Im.flat _ rfl | exact islE_im _ _ | exact Enc.val_im _ _ | assumption | refine Im.aggL ?_ | refine Im.funcL ?_ | refine Im.funcA ?_ | refine Im.isl ?_ | refine Im.ip ?_)) hcl (by omega) (by omega)) (by first | exact Nat.le_refl _ | exact Nat.zero_le _ | (simp only [List.length_append, List.length_cons, List.length_nil]; omega) | (simp only [List.length_set]; omega) | omega) (by first | exact Nat.le_refl _ | exact Nat.zero_le _ | (simp only [List.length_append, List.length_cons, List.length_nil]; omega) | (simp only [List.length_set]; omega) | omega) ?_; rintro _ _ ⟨a4, ⟨k4, rfl, hk4, hk5, hk6, hk7, hk8⟩, _, hb1, hb2, rfl⟩) | (refine ACalls.get ((spec_l1NextN _ (by decide)).val rfl (Nat.zero_le _) (by repeat' (first | exact Im.nilL | refine Im.consL ?_ ?_ | refine Im.appL ?_ ?_ | exact Im.flat _ rfl | exact islE_im _ _ | exact Enc.val_im _ _ | assumption | refine Im.aggL ?_ | refine Im.funcL ?_ | refine Im.funcA ?_ | refine Im.isl ?_ | refine Im.ip ?_)) hcl (by omega) (by omega)) (by first | exact Nat.le_refl _ | exact Nat.zero_le _ | (simp only [List.length_append, List.length_cons, List.length_nil]; omega) | (simp only [List.length_set]; omega) | omega) (by first | exact Nat.le_refl _ | exact Nat.zero_le _ | (simp only [List.length_append, List.length_cons, List.length_nil]; omega) | (simp only [List.length_set]; omega) | omega) ?_; rintro _ _ ⟨a3, ⟨k, rfl, hk⟩, _, ha5, ha6, rfl⟩) | (refine ACalls.get (pickB (r := 0) rfl (Nat.zero_le _) rfl ⟨[_, _, _, _], Nat.succ_pos _, Nat.le_of_ble_eq_true rfl, rfl, rfl, (by intro x hx; simp at hx; omega)⟩ (by omega) hcl (by omega) (by omega)) (by first | exact Nat.le_refl _ | exact Nat.zero_le _ | (simp only [List.length_append, List.length_cons, List.length_nil]; omega) | (simp only [List.length_set]; omega) | omega) (by first | exact Nat.le_refl _ | exact Nat.zero_le _ | (simp only [List.length_append, List.length_cons, List.length_nil]; omega) | (simp only [List.length_set]; omega) | omega) ?_; rintro _ _ ⟨b, u3, rfl, hbw, hb3, hb4, rfl⟩)) | (refine KV.run _ ?_) | (refine KQ.run _ ?_) | (refine KT.run _ ?_) | (refine AWp.seqH fun KC => ?_) | (refine AWp.block ?_) | (refine AWp.region ?_) | (refine mops_step0 rfl rfl fun KC => ?_) | (refine mops_step1 rfl fun KC => ?_) | (refine mops_step2 rfl fun KC => ?_) | (refine AWp.ret ?_) | (refine AWp.skip ?_) | (refine AWp.exit ?_) | (refine aops_callH rfl fun kC => ?_) | (refine qops_callH rfl fun kC => ?_) | (refine AWp.condB ?_) | (simp only [bse, wk, tys, storeH_ptr, Nat.reduceEqDiff, ↓reduceIte, reduceCtorEq, Nat.reduceAdd, Nat.reduceLeDiff, Int.reduceBEq, Int.reduceLT, Int.reduceLE, Int.reduceEq, ne_eq, not_false_eq_true, Nat.reduceMul, byteCs_len, byteCs_take, byteCs_drop, byteCs_cons, byteCs_app, bytesV_byteCs, Option.map_some, Nat.le_refl, *]) | (refine condK_bool (fun hb => ?_) (fun hb => ?_) <;> ((try simp only [Bool.not_eq_true', Bool.not_eq_false'] at hb) <;> (try (have hbe := of_decide_eq_true hb)) <;> (try (have hbe := eq_of_beq hb)))) | (refine aops_partB ?_) | (refine qops_partB ?_))
  all_goals exact EOut.val (.flat _ rfl) ⟨_, rfl, by first | omega | (simp; omega)⟩
end Go.BM
/- FnRules: a rule is met the same by both, its text is read back, and a sign more takes nothing away. -/
set_option linter.unusedVariables false
set_option linter.unusedSimpArgs false
set_option maxRecDepth 100000
set_option maxHeartbeats 4000000
namespace Go.BM
open Go.Proofs Go.RowKit
attribute [local irreducible] ACalls AWp aops qops optK optP cK gateA condK mops qcallK PCalls loadV fldV idxV lenV slV storeH binS
theorem sgCount_mono {gs gs' : List TSign} {id : Int} (h : ∀ k, sgIn gs k id = true → sgIn gs' k id = true) : ∀ ks : List Int, sgCount gs id ks ≤ sgCount gs' id ks
  | [] => Nat.le_refl _
  | k :: ks => by
    have ih := sgCount_mono h ks
    unfold sgCount at ih ⊢
    simp only [List.filter_cons]
    cases h1 : sgIn gs k id with
    | true =>
      rw [h k h1]
      simp only [if_true, List.length_cons]
      omega
    | false =>
      simp only [Bool.false_eq_true, if_false]
      split
      · simp only [List.length_cons]; omega
      · exact ih
theorem met_parts {l : TLedger} {r : TRule} {id h : Int} : ruleMetF l r id h = 0 ↔ ledgerFault l = 0 ∧ ruleFault r.keys r.need r.after = 0 ∧ inB id 1 l.texts.length = true ∧ inB h 0 999 = true ∧ ¬ h < r.after ∧ ¬ ((sgCount l.signs id r.keys : Nat) : Int) < r.need := by
  unfold ruleMetF metF
  by_cases h1 : ledgerFault l = 0
  · by_cases h2 : ruleFault r.keys r.need r.after = 0
    · cases h3 : inB id 1 l.texts.length <;> cases h4 : inB h 0 999 <;> by_cases h5 : h < r.after <;> by_cases h6 : ((sgCount l.signs id r.keys : Nat) : Int) < r.need <;> simp [h1, h2, h5, h6] <;> omega
    · simp [h1, h2]
  · simp [h1]
theorem met_late {l : TLedger} {r : TRule} {id h : Int} (hm : ruleMetF l r id h = 0) : ruleMetF l r id 999 = 0 := by
  obtain ⟨h1, h2, h3, h4, h5, h6⟩ := met_parts.1 hm
  have := (rf_bounds h2).2.2.1.2
  exact met_parts.2 ⟨h1, h2, h3, by decide, by omega, h6⟩
theorem met_more {l l' : TLedger} {r : TRule} {id h key : Int} (hm : ruleMetF l r id h = 0) (hf : ledgerFault l' = 0) (hs : signIdF l' key id = ⟨0, id, l'⟩) (hh : ∀ a b, hasF l' a b = (hasF l a b || (a == key && b == id))) : ruleMetF l' r id h = 0 := by
  obtain ⟨h1, h2, h3, h4, h5, h6⟩ := met_parts.1 hm
  have hin : inB id 1 l'.texts.length = true := by
    cases hx : inB id 1 l'.texts.length with
    | true => rfl
    | false =>
      unfold signIdF at hs
      simp [hf, hx] at hs
  have hc : sgCount l.signs id r.keys ≤ sgCount l'.signs id r.keys := sgCount_mono (fun k hk => by
    have := hh k id
    unfold hasF at this
    rw [hf, h1, hk] at this
    simpa using this) r.keys
  exact met_parts.2 ⟨hf, h2, hin, h4, h5, by omega⟩
theorem rtF_zero {r : TRule} (h : ruleFault r.keys r.need r.after = 0) : rtF r = ⟨0, bs (ruleT 32 r)⟩ := by unfold rtF; rw [if_pos h]
theorem rtF_err {r : TRule} (h : ¬ ruleFault r.keys r.need r.after = 0) : rtF r = ⟨ruleFault r.keys r.need r.after, bs []⟩ := by unfold rtF; rw [if_neg h]
end Go.BM
/- FnRules, the law. -/
set_option linter.unusedVariables false
set_option linter.unusedSimpArgs false
set_option maxRecDepth 100000
set_option maxHeartbeats 4000000
namespace Go.BM
open Go.Proofs Go.RowKit
attribute [local irreducible] ACalls AWp aops qops optK optP cK gateA condK mops qcallK PCalls loadV fldV idxV lenV slV storeH binS
theorem ps_ok {q : TRule} : psR (q, true) = .agg #[.int .i64 0, islE intE q.keys, .int .i64 q.need, .int .i64 q.after] := rfl
theorem ps_err {q : TRule} : psR (q, false) = .agg #[.int .i64 5, islE intE [], .int .i64 0, .int .i64 0] := rfl
theorem law_FnRules (code : List UInt8) (hl : code.length ≤ 9223372036854775807) : PCalls Tryz.prog 3 [islE byteE code] (.bool true) := by
  by_cases hbig : (1048576 : Int) < (code.length : Int)
  · refine PCalls.flat rfl ?_; refine ACalls.enter (n := 109) (rs := [.tmp 2]) Tryz.func3 rfl rfl rfl (by kernel_rfl) (by kernel_rfl) (by kernel_rfl) (Nat.le_of_ble_eq_true rfl) ?_
    repeat' (first | (refine ACalls.start ?_; first | (refine ACalls.ofJi (laws_lwBig code hl) rfl ?_)) | (refine KV.run _ ?_) | (refine KT.run _ ?_) | (refine AWp.seqH fun KC => ?_) | (refine AWp.region ?_) | (refine AWp.ret ?_) | (refine aops_callH rfl fun kC => ?_) | (refine AWp.condB ?_) | (simp only [bse, wk, tys, storeH_ptr, Nat.reduceEqDiff, ↓reduceIte, reduceCtorEq, Nat.reduceAdd, Nat.reduceLeDiff, Int.reduceBEq, Int.reduceLT, Int.reduceLE, Int.reduceEq, ne_eq, not_false_eq_true, Nat.reduceMul, ruleE_val, ruleE_sz, textResultE_val, textResultE_sz, signE_val, signE_sz, strE_sz, ledgerE_val, ledgerE_sz, ledgerResultE_val, *]))
  have hcl : code.length ≤ 1048576 := by omega
  refine PCalls.flat rfl ?_; refine ACalls.enter (n := 109) (rs := [.tmp 2]) Tryz.func3 rfl rfl rfl (by kernel_rfl) (by kernel_rfl) (by kernel_rfl) (Nat.le_of_ble_eq_true rfl) ?_
  repeat' (first | (refine ACalls.start ?_; first | (refine ACalls.ofJi (laws_lwBig code hl) rfl ?_)) | (refine KV.run _ ?_) | (refine KT.run _ ?_) | (refine AWp.seqH fun KC => ?_) | (refine AWp.region ?_) | (refine AWp.skip ?_) | (refine aops_callH rfl fun kC => ?_) | (refine AWp.condB ?_) | (simp only [bse, wk, tys, storeH_ptr, Nat.reduceEqDiff, ↓reduceIte, reduceCtorEq, Nat.reduceAdd, Nat.reduceLeDiff, Int.reduceBEq, Int.reduceLT, Int.reduceLE, Int.reduceEq, ne_eq, not_false_eq_true, Nat.reduceMul, ruleE_val, ruleE_sz, textResultE_val, textResultE_sz, signE_val, signE_sz, strE_sz, ledgerE_val, ledgerE_sz, ledgerResultE_val, *]))
  refine ACalls.get ((spec_DrawRuleMet code hcl).use (by repeat' (first | exact Im.nilL | refine Im.consL ?_ ?_ | refine Im.appL ?_ ?_ | exact Im.flat _ rfl | exact islE_im _ _ | exact Enc.val_im _ _ | assumption | refine Im.aggL ?_ | refine Im.funcL ?_ | refine Im.funcA ?_ | refine Im.isl ?_ | refine Im.ip ?_))) (by first | exact Nat.le_refl _ | exact Nat.zero_le _ | (simp only [List.length_append, List.length_cons, List.length_nil]; omega) | (simp only [List.length_set]; omega) | omega) (by first | exact Nat.le_refl _ | exact Nat.zero_le _ | (simp only [List.length_append, List.length_cons, List.length_nil]; omega) | (simp only [List.length_set]; omega) | omega) ?_
  rintro _ _ ⟨⟨l, r, id, h, rfl, hln, hrk⟩, _, rfl⟩
  have h6 : nLedger l ≤ 1048576 := by omega
  have himp := impl_RuleMet l r id h h6 (by omega)
  have hspec := impl_RuleMet l r id h h6 (by omega)
  replace hspec := spec_RuleMet l r id h h6 (by omega)
  have hlate := impl_RuleMet l r id 999 h6 (by omega)
  have hmet := @met_late l r id h
  have hmore := fun (l' : TLedger) => @met_more l l' r id h 999
  have himp3 := fun (l' : TLedger) (hl' : nLedger l' ≤ 1048576) => impl_RuleMet l' r id h hl' (by omega)
  have hsg := (impl_SignId l 999 id h6).p
  have hsok := @sign_ok l 999 id
  have hrt := impl_RuleText r (by omega)
  have hrf := impl_RuleFault r (by omega)
  have hrf2 := spec_RuleFault r (by omega)
  have hself := impl_SameSelf r (by omega)
  have hz := @rtF_zero r
  have he := @rtF_err r
  have hpt := impl_ParseRule (ruleT 32 r)
  have hlen := fun hr => ruleT_len 32 (r := r) hr
  have hrd := readR_text 32 (.inl rfl) r
  generalize ruleT 32 r = T at hz hpt hlen hrd
  generalize ruleFault r.keys r.need r.after = F at hrf hrf2 hz he hlen hrd
  generalize ruleMetF l r id h = M at himp hspec hmet hmore
  generalize ruleMetF l r id 999 = M9 at hlate hmet
  generalize signIdF l 999 id = W at hsg hsok
  generalize rtF r = V at hrt hz he
  repeat' (first | (refine ACalls.start ?_; first | (refine ACalls.ofJi (himp) rfl ?_) | (refine ACalls.ofJi (hspec) rfl ?_)) | (refine KV.run _ ?_) | (refine KT.run _ ?_) | (refine AWp.seqH fun KC => ?_) | (refine AWp.region ?_) | (refine AWp.skip ?_) | (refine aops_callH rfl fun kC => ?_) | (refine AWp.condB ?_) | (simp only [bse, wk, tys, storeH_ptr, Nat.reduceEqDiff, ↓reduceIte, reduceCtorEq, Nat.reduceAdd, Nat.reduceLeDiff, Int.reduceBEq, Int.reduceLT, Int.reduceLE, Int.reduceEq, ne_eq, not_false_eq_true, Nat.reduceMul, ruleE_val, ruleE_sz, textResultE_val, textResultE_sz, signE_val, signE_sz, strE_sz, ledgerE_val, ledgerE_sz, ledgerResultE_val, *]))
  refine ACalls.get ((spec_DrawParseRule code hcl).use (by repeat' (first | exact Im.nilL | refine Im.consL ?_ ?_ | refine Im.appL ?_ ?_ | exact Im.flat _ rfl | exact islE_im _ _ | exact Enc.val_im _ _ | assumption | refine Im.aggL ?_ | refine Im.funcL ?_ | refine Im.funcA ?_ | refine Im.isl ?_ | refine Im.ip ?_))) (by first | exact Nat.le_refl _ | exact Nat.zero_le _ | (simp only [List.length_append, List.length_cons, List.length_nil]; omega) | (simp only [List.length_set]; omega) | omega) (by first | exact Nat.le_refl _ | exact Nat.zero_le _ | (simp only [List.length_append, List.length_cons, List.length_nil]; omega) | (simp only [List.length_set]; omega) | omega) ?_
  rintro _ _ ⟨⟨s, rfl, hs⟩, _, rfl⟩
  have hp := impl_ParseRule s (by omega)
  have hq := spec_ParseRule s hs
  have hpar := par_readR s
  have hro := @readR_ok 32 s
  have hri := @readR_inv s
  generalize parR s = R' at hq hpar
  generalize readR 32 s = R at hp hpar hro hri
  obtain ⟨q, ok⟩ := R
  obtain ⟨q', ok'⟩ := R'
  dsimp only at hpar hro hri
  subst hpar
  cases ok' with
  | true =>
    have hro := hro rfl
    have hri := hri rfl
    have hq1 := impl_RuleText q (by have := (rf_bounds hro).1.2; omega)
    rw [rtF_zero hro, hri] at hq1
    rw [ps_ok] at hp
    clear hro hri hq
    by_cases hF : F = 0
    · replace hz := hz hF
      subst hz
      clear he hrf hrf2
      have hpt := hpt (by have := hlen hF; omega)
      rw [hrd hF, ps_ok] at hpt
      clear hrd hlen hF
      by_cases hM : M = 0
      · have h9 := hmet hM
        subst h9
        by_cases hW : W.code = 0
        · obtain ⟨l', e1, e2, e3, e4, e5, _, e7, _⟩ := hsok hW
          have hl3 := himp3 l' (by omega)
          rw [hmore l' hM e4 e2 e7] at hl3
          rw [e1] at hsg
          subst hM
          clear hW e1 e2 e3 e4 e5 e7 hsok himp3 hmore hmet himp hspec
          repeat' (first | (refine AWp.mixed (id := 9) [(0, 0), (1, 0), (2, 0), (3, 0), (4, 0), (5, 0), (8, 0), (6, 1), (7, 0), (9, 0), (10, 0), (11, 0), (12, 0), (13, 0), (14, 0), (15, 0), (16, 0), (19, 0), (20, 0), (17, 1), (18, 0), (21, 0), (22, 0), (23, 0)] (by kernel_rfl) (by kernel_rfl) ?_) | (refine AWp.mixed (id := 14) [(0, 0), (1, 0), (4, 0), (2, 1), (3, 0), (5, 1), (6, 0)] (by kernel_rfl) (by kernel_rfl) ?_) | (refine ACalls.start ?_; first | (refine ACalls.ofJi (hp) rfl ?_) | (refine ACalls.ofJi (hq1) rfl ?_) | (refine ACalls.ofJi (hrt) rfl ?_) | (refine ACalls.ofJi (hpt) rfl ?_) | (refine ACalls.ofJi (hself) rfl ?_) | (refine ACalls.ofJi (hlate) rfl ?_) | (refine ACalls.ofJi (hsg) rfl ?_) | (refine ACalls.ofJi (hl3) rfl ?_)) | (refine KV.run _ ?_) | (refine KT.run _ ?_) | (refine AWp.seqH fun KC => ?_) | (refine AWp.region ?_) | (refine mops_step0 rfl rfl fun KC => ?_) | (refine mops_step1 rfl fun KC => ?_) | (refine AWp.ret ?_) | (refine AWp.skip ?_) | (refine aops_callH rfl fun kC => ?_) | (refine AWp.condB ?_) | (simp only [bse, wk, tys, storeH_ptr, Nat.reduceEqDiff, ↓reduceIte, reduceCtorEq, Nat.reduceAdd, Nat.reduceLeDiff, Int.reduceBEq, Int.reduceLT, Int.reduceLE, Int.reduceEq, ne_eq, not_false_eq_true, Nat.reduceMul, ruleE_val, ruleE_sz, textResultE_val, textResultE_sz, signE_val, signE_sz, strE_sz, ledgerE_val, ledgerE_sz, ledgerResultE_val, *]))
        · clear hsok himp3 hmore hmet himp hspec
          subst hM
          obtain ⟨wc, wi, wl⟩ := W
          have hW' : (wc == 0) = false := by simpa using hW
          have hW2 : (wc != 0) = true := by simpa using hW
          clear hW
          repeat' (first | (refine AWp.mixed (id := 9) [(0, 0), (1, 0), (2, 0), (3, 0), (4, 0), (5, 0), (8, 0), (6, 1), (7, 0), (9, 0), (10, 0), (11, 0), (12, 0), (13, 0), (14, 0), (15, 0), (16, 0), (19, 0), (20, 0), (17, 1), (18, 0), (21, 0), (22, 0), (23, 0)] (by kernel_rfl) (by kernel_rfl) ?_) | (refine AWp.mixed (id := 14) [(0, 0), (1, 0), (4, 0), (2, 1), (3, 0), (5, 1), (6, 0)] (by kernel_rfl) (by kernel_rfl) ?_) | (refine ACalls.start ?_; first | (refine ACalls.ofJi (hp) rfl ?_) | (refine ACalls.ofJi (hq1) rfl ?_) | (refine ACalls.ofJi (hrt) rfl ?_) | (refine ACalls.ofJi (hpt) rfl ?_) | (refine ACalls.ofJi (hself) rfl ?_) | (refine ACalls.ofJi (hlate) rfl ?_) | (refine ACalls.ofJi (hsg) rfl ?_)) | (refine KV.run _ ?_) | (refine KT.run _ ?_) | (refine AWp.seqH fun KC => ?_) | (refine AWp.region ?_) | (refine mops_step0 rfl rfl fun KC => ?_) | (refine mops_step1 rfl fun KC => ?_) | (refine AWp.ret ?_) | (refine AWp.skip ?_) | (refine aops_callH rfl fun kC => ?_) | (refine AWp.condB ?_) | (simp only [bse, wk, tys, storeH_ptr, Nat.reduceEqDiff, ↓reduceIte, reduceCtorEq, Nat.reduceAdd, Nat.reduceLeDiff, Int.reduceBEq, Int.reduceLT, Int.reduceLE, Int.reduceEq, ne_eq, not_false_eq_true, Nat.reduceMul, ruleE_val, ruleE_sz, textResultE_val, textResultE_sz, signE_val, signE_sz, strE_sz, ledgerE_val, ledgerE_sz, ledgerResultE_val, *]))
      · have hM' : (M == 0) = false := by simpa using hM
        clear hsok himp3 hmore hmet himp hspec hM
        repeat' (first | (refine AWp.mixed (id := 9) [(0, 0), (1, 0), (2, 0), (3, 0), (4, 0), (5, 0), (8, 0), (6, 1), (7, 0), (9, 0), (10, 0), (11, 0), (12, 0), (13, 0), (14, 0), (15, 0), (16, 0), (19, 0), (20, 0), (17, 1), (18, 0), (21, 0), (22, 0), (23, 0)] (by kernel_rfl) (by kernel_rfl) ?_) | (refine AWp.mixed (id := 14) [(0, 0), (1, 0), (4, 0), (2, 1), (3, 0), (5, 1), (6, 0)] (by kernel_rfl) (by kernel_rfl) ?_) | (refine ACalls.start ?_; first | (refine ACalls.ofJi (hp) rfl ?_) | (refine ACalls.ofJi (hq1) rfl ?_) | (refine ACalls.ofJi (hrt) rfl ?_) | (refine ACalls.ofJi (hpt) rfl ?_) | (refine ACalls.ofJi (hself) rfl ?_)) | (refine KV.run _ ?_) | (refine KT.run _ ?_) | (refine AWp.seqH fun KC => ?_) | (refine AWp.region ?_) | (refine mops_step0 rfl rfl fun KC => ?_) | (refine mops_step1 rfl fun KC => ?_) | (refine AWp.ret ?_) | (refine AWp.skip ?_) | (refine aops_callH rfl fun kC => ?_) | (refine AWp.condB ?_) | (simp only [bse, wk, tys, storeH_ptr, Nat.reduceEqDiff, ↓reduceIte, reduceCtorEq, Nat.reduceAdd, Nat.reduceLeDiff, Int.reduceBEq, Int.reduceLT, Int.reduceLE, Int.reduceEq, ne_eq, not_false_eq_true, Nat.reduceMul, ruleE_val, ruleE_sz, textResultE_val, textResultE_sz, signE_val, signE_sz, strE_sz, ledgerE_val, ledgerE_sz, ledgerResultE_val, *]))
    · replace he := he hF
      subst he
      have hF' : (F == 0) = false := by simpa using hF
      clear hz hpt hrd hlen hF hsok himp3 hmore hmet himp hspec hself hlate hsg
      repeat' (first | (refine AWp.mixed (id := 9) [(0, 0), (1, 0), (2, 0), (3, 0), (4, 0), (5, 0), (8, 0), (6, 1), (7, 0), (9, 0), (10, 0), (11, 0), (12, 0), (13, 0), (14, 0), (15, 0), (16, 0), (19, 0), (20, 0), (17, 1), (18, 0), (21, 0), (22, 0), (23, 0)] (by kernel_rfl) (by kernel_rfl) ?_) | (refine AWp.quiet (id := 13) (by kernel_rfl) (by kernel_rfl) ?_) | (refine ACalls.start ?_; first | (refine ACalls.ofJi (hp) rfl ?_) | (refine ACalls.ofJi (hq1) rfl ?_) | (refine ACalls.ofJi (hrt) rfl ?_)) | (refine qcall_start ?_; first | (refine qcallFi (hrf) rfl ?_ ?_; (focus ((first | exact rfl | (simp [pureV, flatV, ruleE_val, ruleE_sz, textResultE_val, textResultE_sz, signE_val, signE_sz, strE_sz, ledgerE_val, ledgerE_sz, ledgerResultE_val]; done))))) | (refine qcallFi (hrf2) rfl ?_ ?_; (focus ((first | exact rfl | (simp [pureV, flatV, ruleE_val, ruleE_sz, textResultE_val, textResultE_sz, signE_val, signE_sz, strE_sz, ledgerE_val, ledgerE_sz, ledgerResultE_val]; done)))))) | (refine KV.run _ ?_) | (refine KQ.run _ ?_) | (refine KT.run _ ?_) | (refine AWp.seqH fun KC => ?_) | (refine AWp.region ?_) | (refine mops_step0 rfl rfl fun KC => ?_) | (refine mops_step1 rfl fun KC => ?_) | (refine AWp.ret ?_) | (refine AWp.skip ?_) | (refine aops_callH rfl fun kC => ?_) | (refine qops_callH rfl fun kC => ?_) | (refine AWp.condB ?_) | (simp only [bse, wk, tys, storeH_ptr, Nat.reduceEqDiff, ↓reduceIte, reduceCtorEq, Nat.reduceAdd, Nat.reduceLeDiff, Int.reduceBEq, Int.reduceLT, Int.reduceLE, Int.reduceEq, ne_eq, not_false_eq_true, Nat.reduceMul, ruleE_val, ruleE_sz, textResultE_val, textResultE_sz, signE_val, signE_sz, strE_sz, ledgerE_val, ledgerE_sz, ledgerResultE_val, *]))
  | false =>
    rw [ps_err] at hp hq
    clear hro hri
    by_cases hF : F = 0
    · replace hz := hz hF
      subst hz
      clear he hrf hrf2
      have hpt := hpt (by have := hlen hF; omega)
      rw [hrd hF, ps_ok] at hpt
      clear hrd hlen hF
      by_cases hM : M = 0
      · have h9 := hmet hM
        subst h9
        by_cases hW : W.code = 0
        · obtain ⟨l', e1, e2, e3, e4, e5, _, e7, _⟩ := hsok hW
          have hl3 := himp3 l' (by omega)
          rw [hmore l' hM e4 e2 e7] at hl3
          rw [e1] at hsg
          subst hM
          clear hW e1 e2 e3 e4 e5 e7 hsok himp3 hmore hmet himp hspec
          repeat' (first | (refine AWp.mixed (id := 9) [(0, 0), (1, 0), (2, 0), (3, 0), (4, 0), (5, 0), (8, 0), (6, 1), (7, 0), (9, 0), (10, 0), (11, 0), (12, 0), (13, 0), (14, 0), (15, 0), (16, 0), (19, 0), (20, 0), (17, 1), (18, 0), (21, 0), (22, 0), (23, 0)] (by kernel_rfl) (by kernel_rfl) ?_) | (refine AWp.mixed (id := 14) [(0, 0), (1, 0), (4, 0), (2, 1), (3, 0), (5, 1), (6, 0)] (by kernel_rfl) (by kernel_rfl) ?_) | (refine ACalls.start ?_; first | (refine ACalls.ofJi (hp) rfl ?_) | (refine ACalls.ofJi (hq) rfl ?_) | (refine ACalls.ofJi (hrt) rfl ?_) | (refine ACalls.ofJi (hpt) rfl ?_) | (refine ACalls.ofJi (hself) rfl ?_) | (refine ACalls.ofJi (hlate) rfl ?_) | (refine ACalls.ofJi (hsg) rfl ?_) | (refine ACalls.ofJi (hl3) rfl ?_)) | (refine KV.run _ ?_) | (refine KT.run _ ?_) | (refine AWp.seqH fun KC => ?_) | (refine AWp.region ?_) | (refine mops_step0 rfl rfl fun KC => ?_) | (refine mops_step1 rfl fun KC => ?_) | (refine AWp.ret ?_) | (refine AWp.skip ?_) | (refine aops_callH rfl fun kC => ?_) | (refine AWp.condB ?_) | (simp only [bse, wk, tys, storeH_ptr, Nat.reduceEqDiff, ↓reduceIte, reduceCtorEq, Nat.reduceAdd, Nat.reduceLeDiff, Int.reduceBEq, Int.reduceLT, Int.reduceLE, Int.reduceEq, ne_eq, not_false_eq_true, Nat.reduceMul, ruleE_val, ruleE_sz, textResultE_val, textResultE_sz, signE_val, signE_sz, strE_sz, ledgerE_val, ledgerE_sz, ledgerResultE_val, *]))
        · clear hsok himp3 hmore hmet himp hspec
          subst hM
          obtain ⟨wc, wi, wl⟩ := W
          have hW' : (wc == 0) = false := by simpa using hW
          have hW2 : (wc != 0) = true := by simpa using hW
          clear hW
          repeat' (first | (refine AWp.mixed (id := 9) [(0, 0), (1, 0), (2, 0), (3, 0), (4, 0), (5, 0), (8, 0), (6, 1), (7, 0), (9, 0), (10, 0), (11, 0), (12, 0), (13, 0), (14, 0), (15, 0), (16, 0), (19, 0), (20, 0), (17, 1), (18, 0), (21, 0), (22, 0), (23, 0)] (by kernel_rfl) (by kernel_rfl) ?_) | (refine AWp.mixed (id := 14) [(0, 0), (1, 0), (4, 0), (2, 1), (3, 0), (5, 1), (6, 0)] (by kernel_rfl) (by kernel_rfl) ?_) | (refine ACalls.start ?_; first | (refine ACalls.ofJi (hp) rfl ?_) | (refine ACalls.ofJi (hq) rfl ?_) | (refine ACalls.ofJi (hrt) rfl ?_) | (refine ACalls.ofJi (hpt) rfl ?_) | (refine ACalls.ofJi (hself) rfl ?_) | (refine ACalls.ofJi (hlate) rfl ?_) | (refine ACalls.ofJi (hsg) rfl ?_)) | (refine KV.run _ ?_) | (refine KT.run _ ?_) | (refine AWp.seqH fun KC => ?_) | (refine AWp.region ?_) | (refine mops_step0 rfl rfl fun KC => ?_) | (refine mops_step1 rfl fun KC => ?_) | (refine AWp.ret ?_) | (refine AWp.skip ?_) | (refine aops_callH rfl fun kC => ?_) | (refine AWp.condB ?_) | (simp only [bse, wk, tys, storeH_ptr, Nat.reduceEqDiff, ↓reduceIte, reduceCtorEq, Nat.reduceAdd, Nat.reduceLeDiff, Int.reduceBEq, Int.reduceLT, Int.reduceLE, Int.reduceEq, ne_eq, not_false_eq_true, Nat.reduceMul, ruleE_val, ruleE_sz, textResultE_val, textResultE_sz, signE_val, signE_sz, strE_sz, ledgerE_val, ledgerE_sz, ledgerResultE_val, *]))
      · have hM' : (M == 0) = false := by simpa using hM
        clear hsok himp3 hmore hmet himp hspec hM
        repeat' (first | (refine AWp.mixed (id := 9) [(0, 0), (1, 0), (2, 0), (3, 0), (4, 0), (5, 0), (8, 0), (6, 1), (7, 0), (9, 0), (10, 0), (11, 0), (12, 0), (13, 0), (14, 0), (15, 0), (16, 0), (19, 0), (20, 0), (17, 1), (18, 0), (21, 0), (22, 0), (23, 0)] (by kernel_rfl) (by kernel_rfl) ?_) | (refine AWp.mixed (id := 14) [(0, 0), (1, 0), (4, 0), (2, 1), (3, 0), (5, 1), (6, 0)] (by kernel_rfl) (by kernel_rfl) ?_) | (refine ACalls.start ?_; first | (refine ACalls.ofJi (hp) rfl ?_) | (refine ACalls.ofJi (hq) rfl ?_) | (refine ACalls.ofJi (hrt) rfl ?_) | (refine ACalls.ofJi (hpt) rfl ?_) | (refine ACalls.ofJi (hself) rfl ?_)) | (refine KV.run _ ?_) | (refine KT.run _ ?_) | (refine AWp.seqH fun KC => ?_) | (refine AWp.region ?_) | (refine mops_step0 rfl rfl fun KC => ?_) | (refine mops_step1 rfl fun KC => ?_) | (refine AWp.ret ?_) | (refine AWp.skip ?_) | (refine aops_callH rfl fun kC => ?_) | (refine AWp.condB ?_) | (simp only [bse, wk, tys, storeH_ptr, Nat.reduceEqDiff, ↓reduceIte, reduceCtorEq, Nat.reduceAdd, Nat.reduceLeDiff, Int.reduceBEq, Int.reduceLT, Int.reduceLE, Int.reduceEq, ne_eq, not_false_eq_true, Nat.reduceMul, ruleE_val, ruleE_sz, textResultE_val, textResultE_sz, signE_val, signE_sz, strE_sz, ledgerE_val, ledgerE_sz, ledgerResultE_val, *]))
    · replace he := he hF
      subst he
      have hF' : (F == 0) = false := by simpa using hF
      clear hz hpt hrd hlen hF hsok himp3 hmore hmet himp hspec hself hlate hsg
      repeat' (first | (refine AWp.mixed (id := 9) [(0, 0), (1, 0), (2, 0), (3, 0), (4, 0), (5, 0), (8, 0), (6, 1), (7, 0), (9, 0), (10, 0), (11, 0), (12, 0), (13, 0), (14, 0), (15, 0), (16, 0), (19, 0), (20, 0), (17, 1), (18, 0), (21, 0), (22, 0), (23, 0)] (by kernel_rfl) (by kernel_rfl) ?_) | (refine AWp.quiet (id := 13) (by kernel_rfl) (by kernel_rfl) ?_) | (refine ACalls.start ?_; first | (refine ACalls.ofJi (hp) rfl ?_) | (refine ACalls.ofJi (hq) rfl ?_) | (refine ACalls.ofJi (hrt) rfl ?_)) | (refine qcall_start ?_; first | (refine qcallFi (hrf) rfl ?_ ?_; (focus ((first | exact rfl | (simp [pureV, flatV, ruleE_val, ruleE_sz, textResultE_val, textResultE_sz, signE_val, signE_sz, strE_sz, ledgerE_val, ledgerE_sz, ledgerResultE_val]; done))))) | (refine qcallFi (hrf2) rfl ?_ ?_; (focus ((first | exact rfl | (simp [pureV, flatV, ruleE_val, ruleE_sz, textResultE_val, textResultE_sz, signE_val, signE_sz, strE_sz, ledgerE_val, ledgerE_sz, ledgerResultE_val]; done)))))) | (refine KV.run _ ?_) | (refine KQ.run _ ?_) | (refine KT.run _ ?_) | (refine AWp.seqH fun KC => ?_) | (refine AWp.region ?_) | (refine mops_step0 rfl rfl fun KC => ?_) | (refine mops_step1 rfl fun KC => ?_) | (refine AWp.ret ?_) | (refine AWp.skip ?_) | (refine aops_callH rfl fun kC => ?_) | (refine qops_callH rfl fun kC => ?_) | (refine AWp.condB ?_) | (simp only [bse, wk, tys, storeH_ptr, Nat.reduceEqDiff, ↓reduceIte, reduceCtorEq, Nat.reduceAdd, Nat.reduceLeDiff, Int.reduceBEq, Int.reduceLT, Int.reduceLE, Int.reduceEq, ne_eq, not_false_eq_true, Nat.reduceMul, ruleE_val, ruleE_sz, textResultE_val, textResultE_sz, signE_val, signE_sz, strE_sz, ledgerE_val, ledgerE_sz, ledgerResultE_val, *]))
end Go.BM
/- What an argument of bytes is. -/
set_option linter.unusedVariables false
set_option linter.unusedSimpArgs false
set_option maxRecDepth 100000
set_option maxHeartbeats 4000000
namespace Go.BM
open Go.Proofs Go.RowKit
attribute [local irreducible] ACalls AWp aops qops optK optP cK gateA condK mops qcallK PCalls loadV fldV idxV lenV slV storeH binS
theorem wf_u8 {y : Int} (h : (Lit.int .u8 y).wf = true) : 0 ≤ y ∧ y < 256 := by
  unfold Lit.wf at h
  rw [Bool.and_eq_true, decide_eq_true_eq, decide_eq_true_eq] at h
  have e1 : IntKind.u8.min = 0 := by rfl
  have e2 : IntKind.u8.max = 255 := by rfl
  omega
theorem ab_ByteS {n : Nat} {cs : List Value} (h : Ab Tryz.prog (n + 2) 22 cs) : ∃ ys : List UInt8, cs = [islE byteE ys] ∧ ys.length ≤ 9223372036854775807 := by
  obtain ⟨ys, rfl, hn, hq⟩ := Ab.slE (E := byteE) (Q := fun y => True) Tryz.underlying22 (fun x hx => by
    obtain ⟨y, rfl, hy⟩ := Ab.int Tryz.underlying5 hx
    obtain ⟨h0, h1⟩ := wf_u8 hy
    refine ⟨UInt8.ofNat y.toNat, ?_, trivial⟩
    have : ((UInt8.ofNat y.toNat).toNat : Int) = y := by rw [UInt8.toNat_ofNat']; omega
    show [Value.int .u8 y] = [Value.int .u8 ((UInt8.ofNat y.toNat).toNat : Int)]
    rw [this]) h
  exact ⟨ys, rfl, hn⟩
end Go.BM
/- What the row's condition gives on the library's variables; and the builder of a row that has both its condition and the world's shape. -/
set_option linter.unusedVariables false
set_option maxRecDepth 100000
namespace Go
section
variable {H : Type} {enc : TypeId × Value → H}
theorem returnsInHanded_of_change_andS {a : Assume} {C : Checked} {os : Os} {f : FuncId} {fn : Func} {s : ChangeSpec} {conds : List PathCond} {apart fresh handsOn again : Bool} {X : World → Array Value → Prop}
    (hX : ∀ (w w' : World) (args : Array Value), w.heap = w'.heap → X w args → X w' args)
    (own : ownKnob C.prog.godebug = none) (started : os.Started) (noInit : C.prog.inits.idxOf? f = none) (hfn : C.prog.funcs[f]? = some fn)
    (witness : ∃ (w : World) (tape : Tape) (i : Input), w.os = os ∧ (w.forCall tape i).Shaped C.prog ∧ i.vars = [] ∧ Input.okWide C.prog (w.forCall tape i) .any w.heap.size f i ∧
      ((s.pre enc C.prog fn conds apart (w.forCall tape i).memory i.args ∧ X (w.forCall tape i).memory i.args) ∧ sizedMet enc C.prog fn (OpenSpec.ofChange s) apart (w.forCall tape i).memory i.args) ∧ a.holds C.prog (lone (Frame.enter C.prog f i.args .normal) [] (w.forCall tape i)))
    (contract : ∀ (W : World) (base : Nat) (args : Array Value) (ds gs : List (DataW H)) (before : List MemPlace),
      (∀ (j : Nat) t v, fn.params[j]? = some t → args[j]? = some v → Value.okWide C.prog W .any base t v) →
      DataW.Whole enc C.prog fn.params.toList s.vars apart W args.toList ds gs before →
      conds.all (PathCond.test C.prog ⟨fn.params.toList, ds, s.plain.varTypes C.prog, gs⟩) = true →
      (DataW.weightsEach C.prog (fn.params.toList ++ s.plain.varTypes C.prog) (ds ++ gs)).all (· ≤ reachBytes) = true → W.ShapedOpen C.prog → X W args →
      a.holds C.prog (lone (Frame.enter C.prog f args .normal) [] W) →
      Calls C.prog f args W fun e W' => ∃ v, e = .returned v ∧ s.post enc C.prog fn apart fresh handsOn again W args v W') :
    ReturnsInHanded a C os f .any (fun w args => (s.pre enc C.prog fn conds apart w args ∧ X w args) ∧ sizedMet enc C.prog fn (OpenSpec.ofChange s) apart w args) (s.post enc C.prog fn apart fresh handsOn again) := by
  refine returnsInHanded_of_calls own started noInit witness ?_
  intro w tape i _ hsh _ hok hpre hholds
  obtain ⟨_, _, _, fn', hfn', _, _, _, _, hval⟩ := hok
  have e : fn' = fn := Option.some.inj (hfn'.symm.trans hfn)
  subst e
  obtain ⟨⟨⟨ds, gs, before, hw, hc⟩, hx⟩, hz⟩ := hpre
  have hw' := DataW.Whole.of_heap (w' := w.forCall tape i) (by rfl) hw
  refine (contract (w.forCall tape i) w.heap.size i.args ds gs before hval hw' hc (hz.weights hw) hsh (hX _ _ _ (by rfl) hx) hholds).mono fun e W' ⟨v, he, hp⟩ => ?_
  subst he
  exact ChangeSpec.post_blind hp
end
theorem World.heap_of_var {P : Program} {w : World} {n : String} {g : Nat} {cs : Array Value} (hg : P.globalNamed n = some g) (h : w.var? P n = some cs) : ∃ ty mk, w.heap[g]? = some (.cells cs ty mk) := by
  simp only [World.var?, hg, Option.bind_some] at h
  split at h
  · rename_i cs' ty mk e
    cases h
    exact ⟨ty, mk, e⟩
  · cases h
end Go
namespace Go.BM
open Go.RowKit Go.Proofs Go.Proofs.YtegjjdhgffnkhaaGreatDoor
theorem Tryz.gSynT : (Tryz.prog.globals[1]?).map (·.type) = some 97 := by kernel_rfl
theorem Tryz.gRngT : (Tryz.prog.globals[2]?).map (·.type) = some 97 := by kernel_rfl
theorem Tryz.gPowT : (Tryz.prog.globals[powG]?).map (·.type) = some 139 := by kernel_rfl
theorem Tryz.star : "*" ++ "errors.errorString" = "*errors.errorString" := by decide
theorem Tryz.rowE (u : TypeId) (h : Tryz.prog.typeName? 3 u = some "*errors.errorString") : u = 153 :=
  typeName_ptr_named (nm := "errors.errorString") (by rw [Tryz.star]; kernel_rfl) (by kernel_rfl) (by decide) u (by rw [Tryz.star]; exact h)
theorem Tryz.maxCell {W : World} (h : W.ShapedOpen Tryz.prog) : ∃ m, W.cell? ⟨0, 0, none⟩ = some (.int .i64 m) :=
  cell_of_shapedOpen_int (t := 3) (zero := #[.int .i64 0]) h (of_decide_eq_true (by kernel_rfl)) (by kernel_rfl) rfl (by kernel_rfl) (by kernel_rfl) (by kernel_rfl)
theorem gi_of_list {W : World} {d0 d1 d3 d6 : DataW Unit} {n0 n1 n3 n6 : String} (hsh : W.ShapedOpen Tryz.prog)
    (hL : laidMet Tryz.prog [(n0, d0), (n1, d1), ("internal/strconv.uint64pow10", Rows.laid_internal_strconv_uint64pow10), (n3, d3), ("strconv.ErrRange", Rows.laid_strconv_ErrRange), ("strconv.ErrSyntax", Rows.laid_strconv_ErrSyntax), (n6, d6)] W) : GI (allM W).im W := by
  have t2 := hL.tail.tail
  have t4 := t2.tail.tail
  have t5 := t4.tail
  have hp : (Rows.laid_internal_strconv_uint64pow10 : DataW Unit) = Lib.tabData .u64 Lib.pow10Tab := by kernel_rfl
  rw [hp] at t2
  have v5 := Lib.tabIs_of_head (n := 20) (e := 118) (t := 139) Tryz.gPow Tryz.gPowT (by kernel_rfl) (by kernel_rfl) (by kernel_rfl) (by kernel_rfl) t2
  have hs9 : Tryz.prog.underlying 9 = some .string := by kernel_rfl
  have c206 : Tryz.prog.cellsOf 155 = 1 := by kernel_rfl
  have c9 : Tryz.prog.cellsOf 9 = 1 := by kernel_rfl
  have u204 : Tryz.prog.underlying 153 = some (.pointer 155) := by kernel_rfl
  obtain ⟨ms, u138⟩ : ∃ ms, Tryz.prog.underlying 97 = some (.interface ms) := by
    have hq : (match Tryz.prog.underlying 97 with | some (.interface _) => true | _ => false) = true := by kernel_rfl
    split at hq
    case h_2 => cases hq
    rename_i ms hms
    exact ⟨ms, hms⟩
  obtain ⟨f, u206, f1, f2⟩ : ∃ f : Field, Tryz.prog.underlying 155 = some (.struct #[f]) ∧ f.type = 9 ∧ f.offset = 0 := by
    have hq : (match Tryz.prog.underlying 155 with | some (.struct fs) => (match fs.toList with | [f] => decide (f.type = 9) && decide (f.offset = 0) | _ => false) | _ => false) = true := by kernel_rfl
    split at hq
    case h_2 => cases hq
    rename_i fs hfs
    split at hq
    case h_2 => cases hq
    rename_i f hf
    obtain ⟨x1, x2⟩ : f.type = 9 ∧ f.offset = 0 := by simpa using hq
    have hfs' : fs = #[f] := by rw [← Array.toList_inj, hf]
    exact ⟨f, by rw [hfs, hfs'], x1, x2⟩
  obtain ⟨a2, s2, v2, _⟩ := laid_sentinel t4 Tryz.gRng Tryz.gRngT u138 Tryz.rowE u204 u206 f1 f2 hs9 c206 c9
  obtain ⟨a1, s1, v1, _⟩ := laid_sentinel t5 Tryz.gSyn Tryz.gSynT u138 Tryz.rowE u204 u206 f1 f2 hs9 c206 c9
  obtain ⟨m, h0⟩ := Tryz.maxCell hsh
  have c1 : W.cell? ⟨1, 0, none⟩ = some (.iface 153 (.pointer (some a1))) := by simpa using World.var?_cell Tryz.gSyn v1 0
  have c2 : W.cell? ⟨2, 0, none⟩ = some (.iface 153 (.pointer (some a2))) := by simpa using World.var?_cell Tryz.gRng v2 0
  have hV : (Lib.pow10Tab.map fun z => Value.int .u64 z).toArray = pow10V := by kernel_rfl
  have v5' : W.var? Tryz.prog "internal/strconv.uint64pow10" = some pow10V := by rw [← hV]; exact v5
  have c5 : W.cell? ⟨powG, 0, none⟩ = some (.int .u64 1) := by
    rw [World.var?_cell Tryz.gPow v5' 0]
    kernel_rfl
  exact ⟨⟨m, allM_im rfl h0 rfl⟩, ⟨_, _, allM_im rfl c1 rfl, World.heap_of_var Tryz.gSyn v1⟩, ⟨_, _, allM_im rfl c2 rfl, World.heap_of_var Tryz.gRng v2⟩, ⟨_, allM_im rfl c5 rfl, World.heap_of_var Tryz.gPow v5'⟩⟩
end Go.BM
/- The row and the card of FnRules. -/
namespace Go.Proofs.YtegjjdhgffnkhaaGreatDoor.fnRules
open Go.ChangeShapes Go.WideShapes Go.ChangeAt Go.RowKit Go.BM
set_option linter.unusedVariables false
set_option maxRecDepth 100000
theorem own : ownKnob Tryz.prog.godebug = none := by kernel_rfl
theorem claim (zs : List Value) (h : AbVs Tryz.prog 8 Tryz.f3.params.toList zs) : PCalls Tryz.prog 3 zs (.bool true) := by
  rw [Tryz.params3] at h
  obtain ⟨a0, zs0, rfl, g0, r0⟩ := h.uncons
  obtain rfl := r0.done
  obtain ⟨code, e0, l0⟩ := ab_ByteS (AbV.one Tryz.underlying22 (by intro fs h; cases h) g0)
  cases e0
  exact law_FnRules code l0
theorem lifted (os : Os) (started : os.Started) (H : Type) (enc : TypeId × Value → H) :
    ReturnsInHanded {} Tryz.checked os 3 .any (fun w args => (Rows.fnRulesSpec.pre enc Tryz.prog Tryz.f3 Rows.fnRulesRow.domain false w args ∧ laidMetH Tryz.prog Rows.fnRulesRow.laid w) ∧ sizedMet enc Tryz.prog Tryz.f3 (OpenSpec.ofChange Rows.fnRulesSpec) false w args)
      (Rows.fnRulesSpec.post enc Tryz.prog Tryz.f3 false true false false) := by
  refine returnsInHanded_of_change_andS (C := Tryz.checked) (X := fun w _ => laidMetH Tryz.prog Rows.fnRulesRow.laid w) (fun _ _ _ hh h => h.of_heap hh) own started (by kernel_rfl) Tryz.func3
    (ChangeSpec.witness_shaped (enc := enc) (C := Tryz.checked) (os := os) (X := fun w _ => laidMetH Tryz.prog Rows.fnRulesRow.laid w) false (World.laidAll Tryz.prog os Rows.fnRulesRow.laid) #[.slice none 0 0] 8 (World.laidAll_os _ _ _) (World.shaped_of_ZipB (by kernel_rfl) (by kernel_rfl)) (by kernel_rfl) (by kernel_rfl) (by kernel_rfl)
      (by rw [MakeChecks.laidMetH_plain _ _ _ (by kernel_rfl)]; exact laidMet_laidAll _ (by kernel_rfl) (by kernel_rfl))) ?_
  intro W base args ds gs before hval hW hcnd hsz0 hsh hL _
  rw [MakeChecks.laidMetH_plain _ _ _ (by kernel_rfl)] at hL
  have hG : GI (allM W).im W := gi_of_list hsh hL
  have hW' := hW
  obtain ⟨p, q, hA, hV, rfl, hfz, hnd⟩ := hW
  obtain ⟨zs, hvr, hab⟩ := open_args (n := 8) _ _ _ _ hA (fun j t v ht hv => hval j t v (by simpa using ht) (by simpa using hv)) (by kernel_rfl)
  obtain ⟨rfl, rfl⟩ := trodVars_none hV
  refine ((claim zs hab).run hG hvr).mono fun e W' ⟨he, bel⟩ => ?_
  subst he
  have hB := below_trodAll (by kernel_rfl) bel (by kernel_rfl) hA
  have hA2 := hA
  rw [Tryz.params3] at hA2
  obtain ⟨v0, vs0, d0, ds0, p0, q0, hargs0, rfl, rfl, h0, r0⟩ := trodAll_cons hA2
  obtain ⟨rfl, rfl, rfl⟩ := trodAll_nil r0
  exact ⟨_, rfl, _, _, _, [], _, [], hW', trodAll_mk1 (shut_bool Tryz.underlying4 _), hB, rfl, bel.frame _, fun h => by cases h⟩
theorem over : Rows.fnRulesRow.holds Tryz.pinned (OpenSpec.ofChange Rows.fnRulesSpec) :=
  OpenClaim.holds_of_wide 3 Tryz.f3 rfl rfl rfl rfl rfl rfl rfl ⟨rfl, rfl, rfl, rfl, rfl⟩ rfl rfl rfl rfl rfl (by kernel_rfl) Tryz.func3 (by kernel_rfl)
    (of_decide_eq_true (by kernel_rfl)) (by unfold Func.isWrapper; first | (rw [if_pos (by decide +kernel)]; kernel_rfl) | (rw [if_neg (by decide +kernel)]; exact ⟨rfl, rfl⟩))
    (fun os started H enc _ => lifted os started H enc)
theorem card_holds : Rows.FnRulesCardSaid :=
  Claim7.holds_tied_plain_at .later [] [.data, .data, .data, .data, .sentinel, .sentinel, .pinned] true (true, "ffbe7dcefda71afbb142f2ec0093a63843fb461e08bf3bca2976d9627cce4aa0") true
    over (fun _ h => by cases h) (by kernel_rfl) (fun _ h => by cases h) fnRules_row_tie rfl ⟨rfl, rfl⟩ (by kernel_rfl) rfl
    (fun f fn hf hfn => by
      obtain rfl : f = 3 := Option.some.inj ((show Tryz.prog.funcNamed "loop.example/g00304/laws.FnRules" = some 3 by kernel_rfl).symm.trans hf) |>.symm
      obtain rfl : fn = Tryz.f3 := (Option.some.inj (Tryz.func3.symm.trans hfn)).symm
      exact ⟨by kernel_rfl, fun j t ht => by
        rw [Tryz.params3] at ht
        have hm : t ∈ [22] := by simpa using Array.mem_of_getElem? ht
        have hall : ([22].all fun u => !Tryz.prog.wantsStandIn u) = true := by kernel_rfl
        exact (show Tryz.prog.wantsStandIn t = false by simpa using List.all_eq_true.1 hall t hm)⟩)
    (by kernel_rfl)
end Go.Proofs.YtegjjdhgffnkhaaGreatDoor.fnRules
namespace Go.Proofs.YtegjjdhgffnkhaaGreatDoor
/-- The card, under a short name, for the claim. -/
theorem fnRules_holds : Rows.FnRulesCardSaid := fnRules.card_holds
end Go.Proofs.YtegjjdhgffnkhaaGreatDoor
