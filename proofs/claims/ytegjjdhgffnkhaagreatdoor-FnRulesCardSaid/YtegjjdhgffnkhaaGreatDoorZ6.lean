/- Packed: K17, K18, K29, K34, K25, K35, K9, K40, T23, T30. -/
import Derived.Test.YtegjjdhgffnkhaaGreatDoorZ2
import Derived.Test.YtegjjdhgffnkhaaGreatDoorZ3
import Derived.Test.YtegjjdhgffnkhaaGreatDoorZ4
import Derived.Test.YtegjjdhgffnkhaaGreatDoorZ5
/- A rule, read out of a text: the program. -/
set_option linter.unusedVariables false
set_option linter.unusedSimpArgs false
set_option maxRecDepth 100000
set_option maxHeartbeats 4000000
namespace Go.BM
open Go.Proofs Go.RowKit
attribute [local irreducible] ACalls AWp aops qops optK optP cK gateA condK mops qcallK PCalls loadV fldV idxV lenV slV storeH binS
def rule0 : TRule := ⟨[], 0, 0⟩
/-- A rule that was read is right, and its text is the text. -/
def chkR (c : UInt8) (t : List UInt8) (r : TRule) : TRule × Bool := if ruleFault r.keys r.need r.after = 0 ∧ ruleT c r = t then (r, true) else (rule0, false)
def readR (c : UInt8) (t : List UInt8) : TRule × Bool :=
  if 300 < t.length then (rule0, false) else
  match cutL c t with
  | [w0, _, w2] => chkR c t ⟨(cutL 44 w2).map numL, numL w0, 0⟩
  | [w0, _, w2, _, w4] => chkR c t ⟨(cutL 44 w2).map numL, numL w0, numL w4⟩
  | _ => (rule0, false)
def dRule (R : TRule × Bool) (bs : List Blk) (F : (Nat → Nat) → Value) : Prop :=
  (R = (rule0, false) ∧ bs = [] ∧ F = fun _ => .tuple #[.agg #[.slice none 0 0, .int .i64 0, .int .i64 0], .bool false]) ∨
  (R.2 = true ∧ ∃ ver : Nat, bs = [⟨2, 1, intE.flat R.1.keys, ver, true⟩] ∧ F = fun ρ => .tuple #[.agg #[.slice (some ⟨ρ 0, 0, none⟩) R.1.keys.length ver, .int .i64 R.1.need, .int .i64 R.1.after], .bool true])
theorem readRule3 (t : List UInt8) (c : UInt8) (w0 w1 w2 : List UInt8) (hw : cutL c t = [w0, w1, w2]) (ht : t.length ≤ 300) : NFun Tryz.prog 32 [.string (bs t), .string (bs [c])] (dRule (chkR c t ⟨(cutL 44 w2).map numL, numL w0, 0⟩)) := by
  have hsp := lib_SplitC t c (by omega)
  have hW : cutW c t = [bs w0, bs w1, bs w2] := by unfold cutW; rw [hw]; rfl
  rw [hW] at hsp
  have hlt := cutL_mem c t
  rw [hw] at hlt
  have n0 : PCalls Tryz.prog 53 [.string (bs w0)] (.int .i64 (numL w0)) := lib_number (bs w0) (by rw [bs_size]; have := hlt w0 (by simp); omega)
  have nz := fun H : AH => impl_numbers_own H w2 44 (by have := hlt w2 (by simp); omega)
  have hzn : ((cutL 44 w2).map numL).length ≤ 1000000 := by rw [List.length_map]; have := cutL_len 44 w2; have := hlt w2 (by simp); omega
  have ix0 : ∀ H : AH, idxV Tryz.prog H 24 (islE strE [bs w0, bs w1, bs w2]) (.int .i64 0) = some (ip [.string (bs w0), .string (bs w1), .string (bs w2)]) := fun H => idxV_isl (P := Tryz.prog) (H := H) (n := 3) (k := 0) (kd := .i64) (cs := strE.flat [bs w0, bs w1, bs w2]) elZ24 (by omega)
  have ix2 : ∀ H : AH, idxV Tryz.prog H 24 (islE strE [bs w0, bs w1, bs w2]) (.int .i64 2) = some (ip [.string (bs w2)]) := fun H => idxV_isl (P := Tryz.prog) (H := H) (n := 3) (k := 2) (kd := .i64) (cs := strE.flat [bs w0, bs w1, bs w2]) elZ24 (by omega)
  have ld : ∀ (H : AH) (w : ByteArray) (l : List Value), loadV Tryz.prog H 9 (ip (.string w :: l)) = some (.string w) := fun H w l => load_ip1 (P := Tryz.prog) (H := H) (T := 9) (p := 0) (cs := .string w :: l) lay9 rfl
  have h300 : ¬ (300 : Int) < (t.length : Int) := by omega
  have q3 : (((3 : Nat) : Int) == 3) = true := rfl
  have q5 : (((3 : Nat) : Int) == 5) = false := rfl
  clear hW hlt hw ht
  generalize (cutL 44 w2).map numL = zs at nz hzn ⊢
  generalize numL w0 = x0 at n0 ⊢
  have hbf := impl_RuleFault ⟨zs, x0, 0⟩ (by dsimp only; omega)
  have hbt := impl_ruleText ⟨zs, x0, 0⟩ c
  obtain ⟨R, hR⟩ : ∃ R : TRule × Bool, R = chkR c t ⟨zs, x0, 0⟩ := ⟨_, rfl⟩
  rw [← hR]
  unfold chkR at hR
  dsimp only at hR hbf hbt
  have hRH : Hid _ := hR
  clear hR
  unfold NFun
  refine ACalls.enter (n := 54) (rs := [.cell 4 30, .tmp 5]) Tryz.func32 rfl rfl rfl (by kernel_rfl) (by kernel_rfl) (by kernel_rfl) (Nat.le_of_ble_eq_true rfl) ?_
  repeat' (first | (refine ACalls.start ?_; first | (refine ACalls.ofJi (hsp) rfl ?_)) | (refine KV.run _ ?_) | (refine KT.run _ ?_) | (refine AWp.seqH fun KC => ?_) | (refine AWp.region ?_) | (refine AWp.skip ?_) | (refine aops_callH rfl fun kC => ?_) | (refine AWp.condB ?_) | (simp only [bse, wk, tys, storeH_ptr, Nat.reduceEqDiff, ↓reduceIte, reduceCtorEq, Nat.reduceAdd, Nat.reduceLeDiff, Int.reduceBEq, Int.reduceLT, Int.reduceLE, Int.reduceEq, ne_eq, not_false_eq_true, Nat.reduceMul, ruleE_val, ruleE_sz, *]))
  refine AWp.mixedV (id := 4) (.cons 0 0 (.cons 1 0 (.cons 2 0 (.cons 4 0 (.cons 5 0 (.cons 6 0 (.alt 3 1 (.alt 7 1 (.cons 8 0 (.cons 9 1 (.cons 10 2 .nil))) (.cons 9 1 (.cons 7 1 (.cons 8 0 (.cons 10 2 .nil))))) (.cons 9 1 (.cons 3 1 (.cons 7 1 (.cons 8 0 (.cons 10 2 .nil)))))))))))) (by kernel_rfl) (by kernel_rfl) ?_
  refine mopsT_abs fun e0 he0 => ?_
  have r6 := congrFun he0 6
  try simp only [bse, wk, tys, storeH_ptr, Nat.reduceEqDiff, ↓reduceIte, reduceCtorEq, Nat.reduceAdd, Nat.reduceLeDiff, Int.reduceBEq, Int.reduceLT, Int.reduceLE, Int.reduceEq, ne_eq, not_false_eq_true, Nat.reduceMul, ruleE_val, ruleE_sz] at r6
  have he1 : Hid _ := he0
  clear he0
  refine mopsT_mono (K := fun e' H' => Agree [7, 25, 26, 27, 28, 29, 30, 31, 32, 33] e0 e' ∧ (∃ (p q v : Nat) (G : AH), e' 7 = .pointer (some ⟨q + 1, 0, some 0⟩) ∧ H' = ⟨30, 0, [.slice none 0 0, .int .i64 0, .int .i64 0], 0, true⟩ :: G ∧ G[q]? = some ⟨30, 0, [.slice (some ⟨p + 1, 0, none⟩) zs.length v, .int .i64 x0, .int .i64 0], 0, true⟩ ∧ G[p]? = some ⟨2, 1, intE.flat zs, v, true⟩ ∧ p ≠ q)) ?cont _ _ _ ?leaf
  case leaf =>
    clear hbf hbt
    repeat' (first | (refine mopsT_step0 rfl rfl fun KC => ?_) | (refine mopsT_step1 rfl fun KC => ?_) | (refine mopsT_step2 rfl fun KC => ?_) | (refine mopsT_alt1 rfl (fun KC => ?_) ?_) | (refine ACalls.start ?_; first | (refine ACalls.ofJi (n0) rfl ?_) | (refine ACalls.get (nz _) (by first | exact Nat.le_refl _ | exact Nat.zero_le _ | (simp only [List.length_append, List.length_cons, List.length_nil]; omega) | (simp only [List.length_set]; omega) | omega) (by first | exact Nat.le_refl _ | exact Nat.zero_le _ | (simp only [List.length_append, List.length_cons, List.length_nil]; omega) | (simp only [List.length_set]; omega) | omega) ?_; rintro _ _ ⟨v, rfl, rfl⟩)) | (refine KV.run _ ?_) | (refine KT.run _ ?_) | (refine aops_callH rfl fun kC => ?_) | (simp only [bse, wk, tys, storeH_ptr, Nat.reduceEqDiff, ↓reduceIte, reduceCtorEq, Nat.reduceAdd, Nat.reduceLeDiff, Int.reduceBEq, Int.reduceLT, Int.reduceLE, Int.reduceEq, ne_eq, not_false_eq_true, Nat.reduceMul, ruleE_val, ruleE_sz, *]))
    all_goals exact ⟨(by repeat (first | exact Agree.refl _ _ | assumption | refine Agree.put ?_ rfl _)), _, _, _, _, rfl, rfl, rfl, rfl, by decide⟩
  rintro e' H' ⟨hA, p, q, v, G, e7, rfl, gq, gp, npq⟩
  have he2 := he1.out
  clear he1
  have a0 := hA 0 rfl
  have a1 := hA 1 rfl
  have a4 := hA 4 rfl
  have a5 := hA 5 rfl
  have a6 := hA 6 rfl
  rw [he2] at a0 a1 a4 a5 a6
  try simp only [bse, wk, tys, storeH_ptr, Nat.reduceEqDiff, ↓reduceIte, reduceCtorEq, Nat.reduceAdd, Nat.reduceLeDiff, Int.reduceBEq, Int.reduceLT, Int.reduceLE, Int.reduceEq, ne_eq, not_false_eq_true, Nat.reduceMul, ruleE_val, ruleE_sz] at a0 a1 a4 a5 a6
  clear hA he2
  clear nz n0 ix0 ix2
  have hba : Bor (⟨30, 0, [.slice none 0 0, .int .i64 0, .int .i64 0], 0, true⟩ :: G) (.agg #[.slice (some ⟨p + 1, 0, none⟩) zs.length v, .int .i64 x0, .int .i64 0]) (ruleE.val ⟨zs, x0, 0⟩) := Bor.aggL (.cons (Bor.sbE (E := intE) (r := p + 1) (el := 2) (ver := v) (o := true) (ys := zs) (by rw [List.getElem?_cons_succ]; exact gp) (fun _ => rfl) rfl) (.cons (.same _ (.flat _ rfl)) (.cons (.same _ (.flat _ rfl)) .nil)))
  by_cases hf : ruleFault zs x0 0 = 0
  · rw [hf] at hbf
    have hbt := hbt hf
    have hct : (bs (ruleT c ⟨zs, x0, 0⟩) == bs t) = (ruleT c ⟨zs, x0, 0⟩ == t) := bs_beq _ _
    by_cases hT : ruleT c ⟨zs, x0, 0⟩ = t
    · have hR2 : R = (⟨zs, x0, 0⟩, true) := by rw [hRH.out, if_pos ⟨hf, hT⟩]
      have hct' : (bs (ruleT c ⟨zs, x0, 0⟩) == bs t) = true := by rw [hct]; simpa using hT
      subst hR2
      clear hct hT hf hRH
      generalize ruleT c ⟨zs, x0, 0⟩ = T at hbt hct'
      repeat' (first | (refine KT.run _ ?_) | (refine AWp.seqH fun KC => ?_) | (refine AWp.region ?_) | (refine AWp.skip ?_) | (refine aops_callH rfl fun kC => ?_) | (refine AWp.condB ?_) | (simp only [bse, wk, tys, storeH_ptr, Nat.reduceEqDiff, ↓reduceIte, reduceCtorEq, Nat.reduceAdd, Nat.reduceLeDiff, Int.reduceBEq, Int.reduceLT, Int.reduceLE, Int.reduceEq, ne_eq, not_false_eq_true, Nat.reduceMul, ruleE_val, ruleE_sz, *]))
      refine ACalls.ofP hbf (.cons hba .nil) rfl ?_
      repeat' (first | (refine KV.run _ ?_) | (refine aops_callH rfl fun kC => ?_) | (simp only [bse, wk, tys, storeH_ptr, Nat.reduceEqDiff, ↓reduceIte, reduceCtorEq, Nat.reduceAdd, Nat.reduceLeDiff, Int.reduceBEq, Int.reduceLT, Int.reduceLE, Int.reduceEq, ne_eq, not_false_eq_true, Nat.reduceMul, ruleE_val, ruleE_sz, *]))
      refine ACalls.ofP hbt (.cons hba (.cons (.same _ (.flat _ rfl)) .nil)) rfl ?_
      repeat' (first | (refine KV.run _ ?_) | (refine KT.run _ ?_) | (refine AWp.seqH fun KC => ?_) | (refine AWp.region ?_) | (refine AWp.ret ?_) | (refine AWp.skip ?_) | (refine AWp.condB ?_) | (simp only [bse, wk, tys, storeH_ptr, Nat.reduceEqDiff, ↓reduceIte, reduceCtorEq, Nat.reduceAdd, Nat.reduceLeDiff, Int.reduceBEq, Int.reduceLT, Int.reduceLE, Int.reduceEq, ne_eq, not_false_eq_true, Nat.reduceMul, ruleE_val, ruleE_sz, *]))
      exact NFOut.one (p + 1) (by rw [List.getElem?_cons_succ]; exact gp) (.inr ⟨rfl, v, rfl, rfl⟩) rfl
    · have hR2 : R = (rule0, false) := by rw [hRH.out, if_neg fun h => hT h.2]
      have hct' : (bs (ruleT c ⟨zs, x0, 0⟩) == bs t) = false := by rw [hct]; simpa using hT
      subst hR2
      clear hct hT hf hRH
      generalize ruleT c ⟨zs, x0, 0⟩ = T at hbt hct'
      repeat' (first | (refine KT.run _ ?_) | (refine AWp.seqH fun KC => ?_) | (refine AWp.region ?_) | (refine AWp.skip ?_) | (refine aops_callH rfl fun kC => ?_) | (refine AWp.condB ?_) | (simp only [bse, wk, tys, storeH_ptr, Nat.reduceEqDiff, ↓reduceIte, reduceCtorEq, Nat.reduceAdd, Nat.reduceLeDiff, Int.reduceBEq, Int.reduceLT, Int.reduceLE, Int.reduceEq, ne_eq, not_false_eq_true, Nat.reduceMul, ruleE_val, ruleE_sz, *]))
      refine ACalls.ofP hbf (.cons hba .nil) rfl ?_
      repeat' (first | (refine KV.run _ ?_) | (refine aops_callH rfl fun kC => ?_) | (simp only [bse, wk, tys, storeH_ptr, Nat.reduceEqDiff, ↓reduceIte, reduceCtorEq, Nat.reduceAdd, Nat.reduceLeDiff, Int.reduceBEq, Int.reduceLT, Int.reduceLE, Int.reduceEq, ne_eq, not_false_eq_true, Nat.reduceMul, ruleE_val, ruleE_sz, *]))
      refine ACalls.ofP hbt (.cons hba (.cons (.same _ (.flat _ rfl)) .nil)) rfl ?_
      repeat' (first | (refine KV.run _ ?_) | (refine KT.run _ ?_) | (refine AWp.seqH fun KC => ?_) | (refine AWp.region ?_) | (refine AWp.ret ?_) | (refine AWp.condB ?_) | (simp only [bse, wk, tys, storeH_ptr, Nat.reduceEqDiff, ↓reduceIte, reduceCtorEq, Nat.reduceAdd, Nat.reduceLeDiff, Int.reduceBEq, Int.reduceLT, Int.reduceLE, Int.reduceEq, ne_eq, not_false_eq_true, Nat.reduceMul, ruleE_val, ruleE_sz, *]))
      exact NFOut.none (.inl ⟨rfl, rfl, rfl⟩) rfl
  · have hR2 : R = (rule0, false) := by rw [hRH.out, if_neg fun h => hf h.1]
    have hf' : (ruleFault zs x0 0 == 0) = false := by simpa using hf
    subst hR2
    clear hbt hf hRH
    generalize ruleFault zs x0 0 = F at hbf hf'
    repeat' (first | (refine KT.run _ ?_) | (refine AWp.seqH fun KC => ?_) | (refine AWp.region ?_) | (refine AWp.skip ?_) | (refine aops_callH rfl fun kC => ?_) | (refine AWp.condB ?_) | (simp only [bse, wk, tys, storeH_ptr, Nat.reduceEqDiff, ↓reduceIte, reduceCtorEq, Nat.reduceAdd, Nat.reduceLeDiff, Int.reduceBEq, Int.reduceLT, Int.reduceLE, Int.reduceEq, ne_eq, not_false_eq_true, Nat.reduceMul, ruleE_val, ruleE_sz, *]))
    refine ACalls.ofP hbf (.cons hba .nil) rfl ?_
    repeat' (first | (refine KV.run _ ?_) | (refine KT.run _ ?_) | (refine AWp.seqH fun KC => ?_) | (refine AWp.region ?_) | (refine AWp.ret ?_) | (refine AWp.condB ?_) | (simp only [bse, wk, tys, storeH_ptr, Nat.reduceEqDiff, ↓reduceIte, reduceCtorEq, Nat.reduceAdd, Nat.reduceLeDiff, Int.reduceBEq, Int.reduceLT, Int.reduceLE, Int.reduceEq, ne_eq, not_false_eq_true, Nat.reduceMul, ruleE_val, ruleE_sz, *]))
    exact NFOut.none (.inl ⟨rfl, rfl, rfl⟩) rfl
theorem readRule5 (t : List UInt8) (c : UInt8) (w0 w1 w2 w3 w4 : List UInt8) (hw : cutL c t = [w0, w1, w2, w3, w4]) (ht : t.length ≤ 300) : NFun Tryz.prog 32 [.string (bs t), .string (bs [c])] (dRule (chkR c t ⟨(cutL 44 w2).map numL, numL w0, numL w4⟩)) := by
  have hsp := lib_SplitC t c (by omega)
  have hW : cutW c t = [bs w0, bs w1, bs w2, bs w3, bs w4] := by unfold cutW; rw [hw]; rfl
  rw [hW] at hsp
  have hlt := cutL_mem c t
  rw [hw] at hlt
  have n0 : PCalls Tryz.prog 53 [.string (bs w0)] (.int .i64 (numL w0)) := lib_number (bs w0) (by rw [bs_size]; have := hlt w0 (by simp); omega)
  have n4 : PCalls Tryz.prog 53 [.string (bs w4)] (.int .i64 (numL w4)) := lib_number (bs w4) (by rw [bs_size]; have := hlt w4 (by simp); omega)
  have nz := fun H : AH => impl_numbers_own H w2 44 (by have := hlt w2 (by simp); omega)
  have hzn : ((cutL 44 w2).map numL).length ≤ 1000000 := by rw [List.length_map]; have := cutL_len 44 w2; have := hlt w2 (by simp); omega
  have ix0 : ∀ H : AH, idxV Tryz.prog H 24 (islE strE [bs w0, bs w1, bs w2, bs w3, bs w4]) (.int .i64 0) = some (ip [.string (bs w0), .string (bs w1), .string (bs w2), .string (bs w3), .string (bs w4)]) := fun H => idxV_isl (P := Tryz.prog) (H := H) (n := 5) (k := 0) (kd := .i64) (cs := strE.flat [bs w0, bs w1, bs w2, bs w3, bs w4]) elZ24 (by omega)
  have ix2 : ∀ H : AH, idxV Tryz.prog H 24 (islE strE [bs w0, bs w1, bs w2, bs w3, bs w4]) (.int .i64 2) = some (ip [.string (bs w2), .string (bs w3), .string (bs w4)]) := fun H => idxV_isl (P := Tryz.prog) (H := H) (n := 5) (k := 2) (kd := .i64) (cs := strE.flat [bs w0, bs w1, bs w2, bs w3, bs w4]) elZ24 (by omega)
  have ix4 : ∀ H : AH, idxV Tryz.prog H 24 (islE strE [bs w0, bs w1, bs w2, bs w3, bs w4]) (.int .i64 4) = some (ip [.string (bs w4)]) := fun H => idxV_isl (P := Tryz.prog) (H := H) (n := 5) (k := 4) (kd := .i64) (cs := strE.flat [bs w0, bs w1, bs w2, bs w3, bs w4]) elZ24 (by omega)
  have ld : ∀ (H : AH) (w : ByteArray) (l : List Value), loadV Tryz.prog H 9 (ip (.string w :: l)) = some (.string w) := fun H w l => load_ip1 (P := Tryz.prog) (H := H) (T := 9) (p := 0) (cs := .string w :: l) lay9 rfl
  have h300 : ¬ (300 : Int) < (t.length : Int) := by omega
  have q3 : (((5 : Nat) : Int) == 3) = false := rfl
  have q5 : (((5 : Nat) : Int) == 5) = true := rfl
  clear hW hlt hw ht
  generalize (cutL 44 w2).map numL = zs at nz hzn ⊢
  generalize numL w0 = x0 at n0 ⊢
  generalize numL w4 = x4 at n4 ⊢
  have hbf := impl_RuleFault ⟨zs, x0, x4⟩ (by dsimp only; omega)
  have hbt := impl_ruleText ⟨zs, x0, x4⟩ c
  obtain ⟨R, hR⟩ : ∃ R : TRule × Bool, R = chkR c t ⟨zs, x0, x4⟩ := ⟨_, rfl⟩
  rw [← hR]
  unfold chkR at hR
  dsimp only at hR hbf hbt
  have hRH : Hid _ := hR
  clear hR
  unfold NFun
  refine ACalls.enter (n := 54) (rs := [.cell 4 30, .tmp 5]) Tryz.func32 rfl rfl rfl (by kernel_rfl) (by kernel_rfl) (by kernel_rfl) (Nat.le_of_ble_eq_true rfl) ?_
  repeat' (first | (refine ACalls.start ?_; first | (refine ACalls.ofJi (hsp) rfl ?_)) | (refine KV.run _ ?_) | (refine KT.run _ ?_) | (refine AWp.seqH fun KC => ?_) | (refine AWp.region ?_) | (refine AWp.skip ?_) | (refine aops_callH rfl fun kC => ?_) | (refine AWp.condB ?_) | (simp only [bse, wk, tys, storeH_ptr, Nat.reduceEqDiff, ↓reduceIte, reduceCtorEq, Nat.reduceAdd, Nat.reduceLeDiff, Int.reduceBEq, Int.reduceLT, Int.reduceLE, Int.reduceEq, ne_eq, not_false_eq_true, Nat.reduceMul, ruleE_val, ruleE_sz, *]))
  refine AWp.mixedV (id := 4) (.cons 0 0 (.cons 1 0 (.cons 2 0 (.cons 4 0 (.cons 5 0 (.cons 6 0 (.alt 3 1 (.alt 7 1 (.cons 8 0 (.cons 9 1 (.cons 10 2 .nil))) (.cons 9 1 (.cons 7 1 (.cons 8 0 (.cons 10 2 .nil))))) (.cons 9 1 (.cons 3 1 (.cons 7 1 (.cons 8 0 (.cons 10 2 .nil)))))))))))) (by kernel_rfl) (by kernel_rfl) ?_
  refine mopsT_abs fun e0 he0 => ?_
  have r6 := congrFun he0 6
  try simp only [bse, wk, tys, storeH_ptr, Nat.reduceEqDiff, ↓reduceIte, reduceCtorEq, Nat.reduceAdd, Nat.reduceLeDiff, Int.reduceBEq, Int.reduceLT, Int.reduceLE, Int.reduceEq, ne_eq, not_false_eq_true, Nat.reduceMul, ruleE_val, ruleE_sz] at r6
  have he1 : Hid _ := he0
  clear he0
  refine mopsT_mono (K := fun e' H' => Agree [7, 25, 26, 27, 28, 29, 30, 31, 32, 33] e0 e' ∧ (∃ (p q v : Nat) (G : AH), e' 7 = .pointer (some ⟨q + 1, 0, some 0⟩) ∧ H' = ⟨30, 0, [.slice none 0 0, .int .i64 0, .int .i64 0], 0, true⟩ :: G ∧ G[q]? = some ⟨30, 0, [.slice (some ⟨p + 1, 0, none⟩) zs.length v, .int .i64 x0, .int .i64 0], 0, true⟩ ∧ G[p]? = some ⟨2, 1, intE.flat zs, v, true⟩ ∧ p ≠ q)) ?cont _ _ _ ?leaf
  case leaf =>
    clear hbf hbt n4
    repeat' (first | (refine mopsT_step0 rfl rfl fun KC => ?_) | (refine mopsT_step1 rfl fun KC => ?_) | (refine mopsT_step2 rfl fun KC => ?_) | (refine mopsT_alt1 rfl (fun KC => ?_) ?_) | (refine ACalls.start ?_; first | (refine ACalls.ofJi (n0) rfl ?_) | (refine ACalls.get (nz _) (by first | exact Nat.le_refl _ | exact Nat.zero_le _ | (simp only [List.length_append, List.length_cons, List.length_nil]; omega) | (simp only [List.length_set]; omega) | omega) (by first | exact Nat.le_refl _ | exact Nat.zero_le _ | (simp only [List.length_append, List.length_cons, List.length_nil]; omega) | (simp only [List.length_set]; omega) | omega) ?_; rintro _ _ ⟨v, rfl, rfl⟩)) | (refine KV.run _ ?_) | (refine KT.run _ ?_) | (refine aops_callH rfl fun kC => ?_) | (simp only [bse, wk, tys, storeH_ptr, Nat.reduceEqDiff, ↓reduceIte, reduceCtorEq, Nat.reduceAdd, Nat.reduceLeDiff, Int.reduceBEq, Int.reduceLT, Int.reduceLE, Int.reduceEq, ne_eq, not_false_eq_true, Nat.reduceMul, ruleE_val, ruleE_sz, *]))
    all_goals exact ⟨(by repeat (first | exact Agree.refl _ _ | assumption | refine Agree.put ?_ rfl _)), _, _, _, _, rfl, rfl, rfl, rfl, by decide⟩
  rintro e' H' ⟨hA, p, q, v, G, e7, rfl, gq, gp, npq⟩
  have he2 := he1.out
  clear he1
  have a0 := hA 0 rfl
  have a1 := hA 1 rfl
  have a4 := hA 4 rfl
  have a5 := hA 5 rfl
  have a6 := hA 6 rfl
  rw [he2] at a0 a1 a4 a5 a6
  try simp only [bse, wk, tys, storeH_ptr, Nat.reduceEqDiff, ↓reduceIte, reduceCtorEq, Nat.reduceAdd, Nat.reduceLeDiff, Int.reduceBEq, Int.reduceLT, Int.reduceLE, Int.reduceEq, ne_eq, not_false_eq_true, Nat.reduceMul, ruleE_val, ruleE_sz] at a0 a1 a4 a5 a6
  clear hA he2
  clear nz n0 ix0 ix2
  have gs : ∀ b : Blk, (G.set q b)[q]? = some b := fun b => List.getElem?_set_self (lt_of_some gq)
  have gt : ∀ b : Blk, (G.set q b)[p]? = some ⟨2, 1, intE.flat zs, v, true⟩ := fun b => (List.getElem?_set_ne (fun e => npq e.symm)).trans gp
  have hba : Bor (⟨30, 0, [.slice none 0 0, .int .i64 0, .int .i64 0], 0, true⟩ :: G.set q ⟨30, 0, [.slice (some ⟨p + 1, 0, none⟩) zs.length v, .int .i64 x0, .int .i64 x4], 0, true⟩) (.agg #[.slice (some ⟨p + 1, 0, none⟩) zs.length v, .int .i64 x0, .int .i64 x4]) (ruleE.val ⟨zs, x0, x4⟩) := Bor.aggL (.cons (Bor.sbE (E := intE) (r := p + 1) (el := 2) (ver := v) (o := true) (ys := zs) (by rw [List.getElem?_cons_succ]; exact gt _) (fun _ => rfl) rfl) (.cons (.same _ (.flat _ rfl)) (.cons (.same _ (.flat _ rfl)) .nil)))
  by_cases hf : ruleFault zs x0 x4 = 0
  · rw [hf] at hbf
    have hbt := hbt hf
    have hct : (bs (ruleT c ⟨zs, x0, x4⟩) == bs t) = (ruleT c ⟨zs, x0, x4⟩ == t) := bs_beq _ _
    by_cases hT : ruleT c ⟨zs, x0, x4⟩ = t
    · have hR2 : R = (⟨zs, x0, x4⟩, true) := by rw [hRH.out, if_pos ⟨hf, hT⟩]
      have hct' : (bs (ruleT c ⟨zs, x0, x4⟩) == bs t) = true := by rw [hct]; simpa using hT
      subst hR2
      clear hct hT hf hRH
      generalize ruleT c ⟨zs, x0, x4⟩ = T at hbt hct'
      repeat' (first | (refine ACalls.start ?_; first | (refine ACalls.ofJi (n4) rfl ?_)) | (refine KV.run _ ?_) | (refine KT.run _ ?_) | (refine AWp.seqH fun KC => ?_) | (refine AWp.region ?_) | (refine aops_callH rfl fun kC => ?_) | (refine AWp.condB ?_) | (simp only [bse, wk, tys, storeH_ptr, Nat.reduceEqDiff, ↓reduceIte, reduceCtorEq, Nat.reduceAdd, Nat.reduceLeDiff, Int.reduceBEq, Int.reduceLT, Int.reduceLE, Int.reduceEq, ne_eq, not_false_eq_true, Nat.reduceMul, ruleE_val, ruleE_sz, *]))
      refine ACalls.ofP hbf (.cons hba .nil) rfl ?_
      repeat' (first | (refine KV.run _ ?_) | (refine aops_callH rfl fun kC => ?_) | (simp only [bse, wk, tys, storeH_ptr, Nat.reduceEqDiff, ↓reduceIte, reduceCtorEq, Nat.reduceAdd, Nat.reduceLeDiff, Int.reduceBEq, Int.reduceLT, Int.reduceLE, Int.reduceEq, ne_eq, not_false_eq_true, Nat.reduceMul, ruleE_val, ruleE_sz, *]))
      refine ACalls.ofP hbt (.cons hba (.cons (.same _ (.flat _ rfl)) .nil)) rfl ?_
      repeat' (first | (refine KV.run _ ?_) | (refine KT.run _ ?_) | (refine AWp.seqH fun KC => ?_) | (refine AWp.region ?_) | (refine AWp.ret ?_) | (refine AWp.skip ?_) | (refine AWp.condB ?_) | (simp only [bse, wk, tys, storeH_ptr, Nat.reduceEqDiff, ↓reduceIte, reduceCtorEq, Nat.reduceAdd, Nat.reduceLeDiff, Int.reduceBEq, Int.reduceLT, Int.reduceLE, Int.reduceEq, ne_eq, not_false_eq_true, Nat.reduceMul, ruleE_val, ruleE_sz, *]))
      exact NFOut.one (p + 1) (by rw [List.getElem?_cons_succ]; exact gt _) (.inr ⟨rfl, v, rfl, rfl⟩) rfl
    · have hR2 : R = (rule0, false) := by rw [hRH.out, if_neg fun h => hT h.2]
      have hct' : (bs (ruleT c ⟨zs, x0, x4⟩) == bs t) = false := by rw [hct]; simpa using hT
      subst hR2
      clear hct hT hf hRH
      generalize ruleT c ⟨zs, x0, x4⟩ = T at hbt hct'
      repeat' (first | (refine ACalls.start ?_; first | (refine ACalls.ofJi (n4) rfl ?_)) | (refine KV.run _ ?_) | (refine KT.run _ ?_) | (refine AWp.seqH fun KC => ?_) | (refine AWp.region ?_) | (refine aops_callH rfl fun kC => ?_) | (refine AWp.condB ?_) | (simp only [bse, wk, tys, storeH_ptr, Nat.reduceEqDiff, ↓reduceIte, reduceCtorEq, Nat.reduceAdd, Nat.reduceLeDiff, Int.reduceBEq, Int.reduceLT, Int.reduceLE, Int.reduceEq, ne_eq, not_false_eq_true, Nat.reduceMul, ruleE_val, ruleE_sz, *]))
      refine ACalls.ofP hbf (.cons hba .nil) rfl ?_
      repeat' (first | (refine KV.run _ ?_) | (refine aops_callH rfl fun kC => ?_) | (simp only [bse, wk, tys, storeH_ptr, Nat.reduceEqDiff, ↓reduceIte, reduceCtorEq, Nat.reduceAdd, Nat.reduceLeDiff, Int.reduceBEq, Int.reduceLT, Int.reduceLE, Int.reduceEq, ne_eq, not_false_eq_true, Nat.reduceMul, ruleE_val, ruleE_sz, *]))
      refine ACalls.ofP hbt (.cons hba (.cons (.same _ (.flat _ rfl)) .nil)) rfl ?_
      repeat' (first | (refine KV.run _ ?_) | (refine KT.run _ ?_) | (refine AWp.seqH fun KC => ?_) | (refine AWp.region ?_) | (refine AWp.ret ?_) | (refine AWp.condB ?_) | (simp only [bse, wk, tys, storeH_ptr, Nat.reduceEqDiff, ↓reduceIte, reduceCtorEq, Nat.reduceAdd, Nat.reduceLeDiff, Int.reduceBEq, Int.reduceLT, Int.reduceLE, Int.reduceEq, ne_eq, not_false_eq_true, Nat.reduceMul, ruleE_val, ruleE_sz, *]))
      exact NFOut.none (.inl ⟨rfl, rfl, rfl⟩) rfl
  · have hR2 : R = (rule0, false) := by rw [hRH.out, if_neg fun h => hf h.1]
    have hf' : (ruleFault zs x0 x4 == 0) = false := by simpa using hf
    subst hR2
    clear hbt hf hRH
    generalize ruleFault zs x0 x4 = F at hbf hf'
    repeat' (first | (refine ACalls.start ?_; first | (refine ACalls.ofJi (n4) rfl ?_)) | (refine KV.run _ ?_) | (refine KT.run _ ?_) | (refine AWp.seqH fun KC => ?_) | (refine AWp.region ?_) | (refine aops_callH rfl fun kC => ?_) | (refine AWp.condB ?_) | (simp only [bse, wk, tys, storeH_ptr, Nat.reduceEqDiff, ↓reduceIte, reduceCtorEq, Nat.reduceAdd, Nat.reduceLeDiff, Int.reduceBEq, Int.reduceLT, Int.reduceLE, Int.reduceEq, ne_eq, not_false_eq_true, Nat.reduceMul, ruleE_val, ruleE_sz, *]))
    refine ACalls.ofP hbf (.cons hba .nil) rfl ?_
    repeat' (first | (refine KV.run _ ?_) | (refine KT.run _ ?_) | (refine AWp.seqH fun KC => ?_) | (refine AWp.region ?_) | (refine AWp.ret ?_) | (refine AWp.condB ?_) | (simp only [bse, wk, tys, storeH_ptr, Nat.reduceEqDiff, ↓reduceIte, reduceCtorEq, Nat.reduceAdd, Nat.reduceLeDiff, Int.reduceBEq, Int.reduceLT, Int.reduceLE, Int.reduceEq, ne_eq, not_false_eq_true, Nat.reduceMul, ruleE_val, ruleE_sz, *]))
    exact NFOut.none (.inl ⟨rfl, rfl, rfl⟩) rfl
end Go.BM
/- A rule and an out, read out of texts: the program. -/
set_option linter.unusedVariables false
set_option linter.unusedSimpArgs false
set_option maxRecDepth 100000
set_option maxHeartbeats 4000000
namespace Go.BM
open Go.Proofs Go.RowKit
attribute [local irreducible] ACalls AWp aops qops optK optP cK gateA condK mops qcallK PCalls loadV fldV idxV lenV slV storeH binS
theorem impl_readRule (t : List UInt8) (c : UInt8) (ht : t.length ≤ 1000000) : NFun Tryz.prog 32 [.string (bs t), .string (bs [c])] (dRule (readR c t)) := by
  by_cases h3 : 300 < t.length
  · have hr : readR c t = (rule0, false) := by unfold readR; rw [if_pos h3]
    rw [hr]
    have h3' : (300 : Int) < (t.length : Int) := by omega
    have hsp := lib_SplitC t c (by omega)
    clear hr
    unfold NFun
    refine ACalls.enter (n := 54) (rs := [.cell 4 30, .tmp 5]) Tryz.func32 rfl rfl rfl (by kernel_rfl) (by kernel_rfl) (by kernel_rfl) (Nat.le_of_ble_eq_true rfl) ?_
    repeat' (first | (refine AWp.mixedT (id := 4) (.cons 0 0 (.cons 1 0 (.cons 2 0 (.cons 4 0 (.cons 5 0 (.cons 6 0 (.alt 3 1 (.alt 7 1 (.cons 8 0 (.cons 9 1 (.cons 10 2 .nil))) (.cons 9 1 (.cons 7 1 (.cons 8 0 (.cons 10 2 .nil))))) (.cons 9 1 (.cons 3 1 (.cons 7 1 (.cons 8 0 (.cons 10 2 .nil)))))))))))) (by kernel_rfl) (by kernel_rfl) ?_) | (refine mopsT_step0 rfl rfl fun KC => ?_) | (refine mopsT_step1 rfl fun KC => ?_) | (refine mopsT_step2 rfl fun KC => ?_) | (refine mopsT_alt1 rfl (fun KC => ?_) ?_) | (refine mopsT_alt2 rfl (fun KC => ?_) ?_) | (refine ACalls.start ?_; first | (refine ACalls.ofJi (hsp) rfl ?_)) | (refine qcall_start ?_; first | (refine qcallFi (hsp) rfl ?_ ?_; (focus ((first | exact rfl | (simp [pureV, flatV, ruleE_val, ruleE_sz]; done)))))) | (refine KV.run _ ?_) | (refine KQ.run _ ?_) | (refine KT.run _ ?_) | (refine AWp.seqH fun KC => ?_) | (refine AWp.block ?_) | (refine AWp.region ?_) | (refine mops_step0 rfl rfl fun KC => ?_) | (refine mops_step1 rfl fun KC => ?_) | (refine mops_step2 rfl fun KC => ?_) | (refine AWp.ret ?_) | (refine AWp.skip ?_) | (refine AWp.exit ?_) | (refine aops_callH rfl fun kC => ?_) | (refine qops_callH rfl fun kC => ?_) | (refine AWp.condB ?_) | (simp only [bse, wk, tys, storeH_ptr, Nat.reduceEqDiff, ↓reduceIte, reduceCtorEq, Nat.reduceAdd, Nat.reduceLeDiff, Int.reduceBEq, Int.reduceLT, Int.reduceLE, Int.reduceEq, ne_eq, not_false_eq_true, Nat.reduceMul, ruleE_val, ruleE_sz, *]) | (refine condK_bool (fun hb => ?_) (fun hb => ?_) <;> ((try simp only [Bool.not_eq_true', Bool.not_eq_false'] at hb) <;> (try (have hbe := of_decide_eq_true hb)) <;> (try (have hbe := eq_of_beq hb)))) | (refine aops_partB ?_) | (refine qops_partB ?_))
    exact NFOut.none (.inl ⟨rfl, rfl, rfl⟩) rfl
  · unfold readR
    rw [if_neg h3]
    split
    · rename_i w0 w1 w2 hw
      exact readRule3 t c _ _ _ hw (by omega)
    · rename_i w0 w1 w2 w3 w4 hw
      exact readRule5 t c _ _ _ _ _ hw (by omega)
    · rename_i n3 n5
      have hcl : (cutW c t).length = (cutL c t).length := List.length_map ..
      have l3 : (cutL c t).length ≠ 3 := fun e => by
        match hq : cutL c t, e with
        | [a, b, d], _ => exact n3 a b d hq
      have l5 : (cutL c t).length ≠ 5 := fun e => by
        match hq : cutL c t, e with
        | [a, b, d, f, g], _ => exact n5 a b d f g hq
      have q3 : (((cutW c t).length : Int) == 3) = false := by rw [hcl]; simp; omega
      have q5 : (((cutW c t).length : Int) == 5) = false := by rw [hcl]; simp; omega
      have h3' : ¬ (300 : Int) < (t.length : Int) := by omega
      have hsp := lib_SplitC t c (by omega)
      clear l3 l5 hcl n3 n5
      unfold NFun
      refine ACalls.enter (n := 54) (rs := [.cell 4 30, .tmp 5]) Tryz.func32 rfl rfl rfl (by kernel_rfl) (by kernel_rfl) (by kernel_rfl) (Nat.le_of_ble_eq_true rfl) ?_
      repeat' (first | (refine AWp.mixedT (id := 4) (.cons 0 0 (.cons 1 0 (.cons 2 0 (.cons 4 0 (.cons 5 0 (.cons 6 0 (.alt 3 1 (.alt 7 1 (.cons 8 0 (.cons 9 1 (.cons 10 2 .nil))) (.cons 9 1 (.cons 7 1 (.cons 8 0 (.cons 10 2 .nil))))) (.cons 9 1 (.cons 3 1 (.cons 7 1 (.cons 8 0 (.cons 10 2 .nil)))))))))))) (by kernel_rfl) (by kernel_rfl) ?_) | (refine mopsT_step0 rfl rfl fun KC => ?_) | (refine mopsT_step1 rfl fun KC => ?_) | (refine mopsT_step2 rfl fun KC => ?_) | (refine mopsT_alt1 rfl (fun KC => ?_) ?_) | (refine mopsT_alt2 rfl (fun KC => ?_) ?_) | (refine ACalls.start ?_; first | (refine ACalls.ofJi (hsp) rfl ?_)) | (refine qcall_start ?_; first | (refine qcallFi (hsp) rfl ?_ ?_; (focus ((first | exact rfl | (simp [pureV, flatV, ruleE_val, ruleE_sz]; done)))))) | (refine KV.run _ ?_) | (refine KQ.run _ ?_) | (refine KT.run _ ?_) | (refine AWp.seqH fun KC => ?_) | (refine AWp.block ?_) | (refine AWp.region ?_) | (refine mops_step0 rfl rfl fun KC => ?_) | (refine mops_step1 rfl fun KC => ?_) | (refine mops_step2 rfl fun KC => ?_) | (refine AWp.ret ?_) | (refine AWp.skip ?_) | (refine AWp.exit ?_) | (refine aops_callH rfl fun kC => ?_) | (refine qops_callH rfl fun kC => ?_) | (refine AWp.condB ?_) | (simp only [bse, wk, tys, storeH_ptr, Nat.reduceEqDiff, ↓reduceIte, reduceCtorEq, Nat.reduceAdd, Nat.reduceLeDiff, Int.reduceBEq, Int.reduceLT, Int.reduceLE, Int.reduceEq, ne_eq, not_false_eq_true, Nat.reduceMul, ruleE_val, ruleE_sz, *]) | (refine condK_bool (fun hb => ?_) (fun hb => ?_) <;> ((try simp only [Bool.not_eq_true', Bool.not_eq_false'] at hb) <;> (try (have hbe := of_decide_eq_true hb)) <;> (try (have hbe := eq_of_beq hb)))) | (refine aops_partB ?_) | (refine qops_partB ?_))
      exact NFOut.none (.inl ⟨rfl, rfl, rfl⟩) rfl
end Go.BM
/- A transaction, read out of a text: plain functions, facts on lists of words. -/
set_option linter.unusedVariables false
set_option linter.unusedSimpArgs false
set_option maxRecDepth 100000
set_option maxHeartbeats 4000000
namespace Go.BM
open Go.Proofs Go.RowKit
attribute [local irreducible] ACalls AWp aops qops optK optP cK gateA condK mops qcallK PCalls loadV fldV idxV lenV slV storeH binS
theorem chkR_ok {c : UInt8} {t : List UInt8} {r : TRule} (h : (chkR c t r).2 = true) : ruleFault (chkR c t r).1.keys (chkR c t r).1.need (chkR c t r).1.after = 0 := by
  unfold chkR at h ⊢
  by_cases hc : ruleFault r.keys r.need r.after = 0 ∧ ruleT c r = t
  · rw [if_pos hc]; exact hc.1
  · rw [if_neg hc] at h; cases h
theorem readR_ok {c : UInt8} {t : List UInt8} (h : (readR c t).2 = true) : ruleFault (readR c t).1.keys (readR c t).1.need (readR c t).1.after = 0 := by
  unfold readR at h ⊢
  by_cases h3 : 300 < t.length
  · rw [if_pos h3] at h; cases h
  · rw [if_neg h3] at h ⊢
    split at h
    · exact chkR_ok h
    · exact chkR_ok h
    · cases h
theorem ld_str (H : AH) (w : ByteArray) (l : List Value) : loadV Tryz.prog H 9 (ip (.string w :: l)) = some (.string w) := load_ip1 (P := Tryz.prog) (H := H) (T := 9) (p := 0) (cs := .string w :: l) lay9 rfl
end Go.BM
/- A rule read out of a text: the reference. -/
set_option linter.unusedVariables false
set_option linter.unusedSimpArgs false
set_option maxRecDepth 100000
set_option maxHeartbeats 4000000
namespace Go.BM
open Go.Proofs Go.RowKit
attribute [local irreducible] ACalls AWp aops qops optK optP cK gateA condK mops qcallK PCalls loadV fldV idxV lenV slV storeH binS
def keysD (w : List UInt8) : List Int := (cutL 44 w).map fun w => (numD 3 w).1
def keysOk (w : List UInt8) : Bool := (cutL 44 w).all fun w => (numD 3 w).2
/-- A rule, read as the reference reads it. -/
def parR (t : List UInt8) : TRule × Bool :=
  match cutL 32 t with
  | [w0, w1, w2] => if w1 = [111, 102] then (⟨keysD w2, (numD 1 w0).1, 0⟩, (numD 1 w0).2 && keysOk w2 && (ruleFault (keysD w2) (numD 1 w0).1 0 == 0)) else (rule0, false)
  | [w0, w1, w2, w3, w4] => if w1 = [111, 102] then (⟨keysD w2, (numD 1 w0).1, (numD 3 w4).1⟩, (numD 1 w0).2 && keysOk w2 && ((numD 3 w4).2 && (w3 == [97, 102, 116, 101, 114]) && decide (0 < (numD 3 w4).1)) && (ruleFault (keysD w2) (numD 1 w0).1 (numD 3 w4).1 == 0)) else (rule0, false)
  | _ => (rule0, false)
theorem bor_rule0 {H : AH} (b : Bool) : Bor H (.tuple #[.agg #[.slice none 0 0, .int .i64 0, .int .i64 0], .bool b]) (.tuple #[ruleE.val rule0, .bool b]) :=
  Bor.tupleL (.cons (Bor.aggL (.cons .nil (.cons (.same _ (.flat _ rfl)) (.cons (.same _ (.flat _ rfl)) .nil)))) (.cons (.same _ (.flat _ rfl)) .nil))
theorem l2Parse3 (t w0 w1 w2 : List UInt8) (hw : cutL 32 t = [w0, w1, w2]) (hof : w1 = [111, 102]) (ht : t.length ≤ 300) (R : TRule × Bool) (hR : R = (⟨keysD w2, (numD 1 w0).1, 0⟩, (numD 1 w0).2 && keysOk w2 && (ruleFault (keysD w2) (numD 1 w0).1 0 == 0))) : PCalls Tryz.prog 34 [.string (bs t)] (.tuple #[ruleE.val R.1, .bool R.2]) := by
  have hsp := spec_l2Cut t 32 32 rfl (by omega)
  have hW : cutW 32 t = [bs w0, bs w1, bs w2] := by unfold cutW; rw [hw]; rfl
  rw [hW] at hsp
  have hlt := cutL_mem 32 t
  rw [hw] at hlt
  have q3 : (((3 : Nat) : Int) == 3) = true := rfl
  have q5 : (((3 : Nat) : Int) == 5) = false := rfl
  have ix0 : ∀ H : AH, idxV Tryz.prog H 24 (islE strE [bs w0, bs w1, bs w2]) (.int .i64 0) = some (ip [.string (bs w0), .string (bs w1), .string (bs w2)]) := fun H => idxV_isl (P := Tryz.prog) (H := H) (n := 3) (k := 0) (kd := .i64) (cs := strE.flat [bs w0, bs w1, bs w2]) elZ24 (by omega)
  have ix1 : ∀ H : AH, idxV Tryz.prog H 24 (islE strE [bs w0, bs w1, bs w2]) (.int .i64 1) = some (ip [.string (bs w1), .string (bs w2)]) := fun H => idxV_isl (P := Tryz.prog) (H := H) (n := 3) (k := 1) (kd := .i64) (cs := strE.flat [bs w0, bs w1, bs w2]) elZ24 (by omega)
  have ix2 : ∀ H : AH, idxV Tryz.prog H 24 (islE strE [bs w0, bs w1, bs w2]) (.int .i64 2) = some (ip [.string (bs w2)]) := fun H => idxV_isl (P := Tryz.prog) (H := H) (n := 3) (k := 2) (kd := .i64) (cs := strE.flat [bs w0, bs w1, bs w2]) elZ24 (by omega)
  have ld := ld_str
  have hof' : (bs w1 == ⟨#[111, 102]⟩) = true := by rw [show (bs w1 == ⟨#[111, 102]⟩) = (w1 == [111, 102]) from bs_beq w1 [111, 102]]; simpa using hof
  have m0 : PCalls Tryz.prog 58 [.string (bs w0), .int .i64 1] (.tuple #[.int .i64 (numD 1 w0).1, .bool (numD 1 w0).2]) := spec_l2Number w0 1 (by omega) (by have := hlt w0 (by simp); omega)
  have hsc := spec_l2Cut w2 44 44 rfl (by have := hlt w2 (by simp); omega)
  have hwl : ∀ w ∈ cutL 44 w2, w.length ≤ 300 := fun w hw => by have := cutL_mem 44 w2 w hw; have := hlt w2 (by simp); omega
  have hln : (cutL 44 w2).length ≤ 301 := by have := cutL_len 44 w2; have := hlt w2 (by simp); omega
  have hcw : cutW 44 w2 = (cutL 44 w2).map bs := rfl
  rw [hcw] at hsc
  clear hW hlt hw ht hcw hof
  unfold keysD keysOk at hR
  generalize cutL 44 w2 = lw at hsc hwl hln hR
  have hml : (lw.map bs).length = lw.length := List.length_map ..
  have hnum : ∀ (k : Nat) (hk : k < lw.length), PCalls Tryz.prog 58 [.string (bs lw[k]), .int .i64 3] (.tuple #[.int .i64 (numD 3 lw[k]).1, .bool (numD 3 lw[k]).2]) := fun k hk => spec_l2Number lw[k] 3 (by omega) (by have := hwl _ (List.getElem_mem hk); omega)
  generalize numD 1 w0 = r0 at m0 hR
  obtain ⟨x0, o0⟩ := r0
  dsimp only at m0 hR
  have hfl := spec_l2Fault (lw.map fun w => (numD 3 w).1) x0 0 (by rw [List.length_map]; omega)
  obtain ⟨F, hFe⟩ : ∃ F, F = ruleFault (lw.map fun w => (numD 3 w).1) x0 0 := ⟨_, rfl⟩
  rw [← hFe] at hfl hR
  have hRH : Hid _ := hR
  clear hFe hwl hR
  refine PCalls.of ?_; refine ACalls.enter (n := 100) (rs := [.cell 2 30, .tmp 3]) Tryz.func34 rfl rfl rfl (by kernel_rfl) (by kernel_rfl) (by kernel_rfl) (Nat.le_of_ble_eq_true rfl) ?_
  repeat' (first | (refine ACalls.start ?_; first | (refine ACalls.ofJi (hsp) rfl ?_) | (refine ACalls.ofJi (m0) rfl ?_) | (refine ACalls.ofJi (hsc) rfl ?_)) | (refine KV.run _ ?_) | (refine KT.run _ ?_) | (refine AWp.seqH fun KC => ?_) | (refine AWp.block ?_) | (refine AWp.region ?_) | (refine AWp.skip ?_) | (refine aops_callH rfl fun kC => ?_) | (refine AWp.condB ?_) | (simp only [bse, wk, tys, storeH_ptr, Nat.reduceEqDiff, ↓reduceIte, reduceCtorEq, Nat.reduceAdd, Nat.reduceLeDiff, Int.reduceBEq, Int.reduceLT, Int.reduceLE, Int.reduceEq, ne_eq, not_false_eq_true, Nat.reduceMul, ruleE_val, ruleE_sz, Int.cast_ofNat_Int, *]))
  refine AWp.loopH [44, 45, 46, 47, 51, 52, 53, 54, 55, 50, 56, 57, 10, 11, 58, 59, 60, 61, 6, 62, 63, 64, 65, 66, 67, 48, 49, 9] (fun m e2 H2 => ∃ (k : Nat) (acc : Bool) (a : Option Addr) (n v : Nat) (M : AH), k ≤ lw.length ∧ m = lw.length - k ∧ e2 9 = .int .i64 k ∧ e2 6 = .bool acc ∧ H2 = ⟨30, 0, [.slice none 0 0, .int .i64 0, .int .i64 0], 0, true⟩ :: ⟨30, 0, [.slice a n v, .int .i64 x0, .int .i64 0], 0, true⟩ :: M ∧ Hid (SlM 2 2 intE M a n v ((lw.take k).map fun w => (numD 3 w).1)) ∧ Hid (acc = (o0 && (lw.take k).all fun w => (numD 3 w).2))) lw.length ⟨0, _, none, 0, 0, [], by omega, by omega, rfl, rfl, rfl, SlM.nil _ _ _ _, by unfold Hid; simp⟩ ?_
  rintro m e2 H2 hA ⟨k, acc, a, n, v, M, hk, rfl, e9, e6, rfl, hM, hacc⟩ hJ
  have a2 := hA 2 rfl; have a3 := hA 3 rfl; have a4 := hA 4 rfl; have a7 := hA 7 rfl; have a8 := hA 8 rfl; try simp only [bse, wk, tys, storeH_ptr, Nat.reduceEqDiff, ↓reduceIte, reduceCtorEq, Nat.reduceAdd, Nat.reduceLeDiff, Int.reduceBEq, Int.reduceLT, Int.reduceLE, Int.reduceEq, ne_eq, not_false_eq_true, Nat.reduceMul] at a2 a3 a4 a7 a8; clear hA
  by_cases hkl : k < lw.length
  · have hlt' : (k : Int) < (lw.length : Int) := by omega
    have hw := wr_succ (k := k) (by omega)
    have hkb : (lw.map bs)[k]'(by omega) = bs lw[k] := List.getElem_map ..
    have hn := hnum k hkl
    have hst : Hid ((acc && (numD 3 lw[k]).2) = (o0 && (lw.take (k + 1)).all fun w => (numD 3 w).2)) := by unfold Hid; rw [all_step _ _ _ hkl, ← Bool.and_assoc, ← hacc.out]
    have hmp := map_step (fun w => (numD 3 w).1) lw k hkl
    have hyl : ((lw.take k).map fun w => (numD 3 w).1).length = k := by rw [List.length_map, List.length_take]; omega
    obtain ⟨a', n', v', M', hap, hM', _, _⟩ := hM.out.app (P := Tryz.prog) (B := 0) [⟨30, 0, [.slice none 0 0, .int .i64 0, .int .i64 0], 0, true⟩, ⟨30, 0, [.slice a n v, .int .i64 x0, .int .i64 0], 0, true⟩] rfl (M.length + 1 + 1) (by omega) elZ28 elZ28 zOk28 (Nat.zero_le _) (numD 3 lw[k]).1 (by omega) (by omega)
    simp only [intE_sz, intE_val, cells_int, List.cons_append, List.nil_append] at hap
    rw [← hmp] at hM'
    have hM2 : Hid _ := hM'
    clear hM' hM hmp hyl hacc hnum hfl
    generalize (numD 3 lw[k]).1 = y at hn hap
    generalize (numD 3 lw[k]).2 = g at hn hst
    have h3 : acc = false ∨ (acc = true ∧ g = false) ∨ (acc = true ∧ g = true) := by cases acc <;> cases g <;> simp
    rcases h3 with rfl | ⟨rfl, rfl⟩ | ⟨rfl, rfl⟩
    all_goals
      simp only [Bool.false_and, Bool.and_false, Bool.true_and, Bool.and_true] at hst
      repeat' (first | (refine ACalls.start ?_; first | (refine ACalls.ofJi (hn) rfl ?_)) | (refine KV.run _ ?_) | (refine KT.run _ ?_) | (refine AWp.seqH fun KC => ?_) | (refine AWp.block ?_) | (refine AWp.region ?_) | (refine AWp.skip ?_) | (refine aops_callH rfl fun kC => ?_) | (refine AWp.condB ?_) | (simp only [bse, wk, tys, storeH_ptr, Nat.reduceEqDiff, ↓reduceIte, reduceCtorEq, Nat.reduceAdd, Nat.reduceLeDiff, Int.reduceBEq, Int.reduceLT, Int.reduceLE, Int.reduceEq, ne_eq, not_false_eq_true, Nat.reduceMul, ruleE_val, ruleE_sz, Int.cast_ofNat_Int, *]))
      exact hJ.out _ _ ⟨lw.length - (k + 1), by omega, k + 1, _, a', n', v', M', by omega, rfl, rfl, rfl, rfl, hM2.out, hst⟩ (by repeat (first | exact Agree.refl _ _ | assumption | refine Agree.put ?_ rfl _))
  · have hlt' : ¬ (k : Int) < (lw.length : Int) := by omega
    have hke : k = lw.length := by omega
    subst hke
    rw [List.take_length] at hM hacc
    have hSM := hM.out
    have hR2 : R = (⟨lw.map fun w => (numD 3 w).1, x0, 0⟩, acc && (F == 0)) := by rw [hRH.out, hacc.out]
    clear hRH hacc hM hnum
    obtain ⟨f0, hf0⟩ : ∃ f0, f0 = (F == 0) := ⟨_, rfl⟩
    rw [← hf0] at hR2
    have hf0' := hf0.symm
    clear hf0
    have h3 : acc = false ∨ acc = true := by cases acc <;> simp
    rcases h3 with rfl | rfl
    all_goals
      simp only [Bool.false_and, Bool.and_false, Bool.true_and, Bool.and_true] at hR2
      subst hR2
      dsimp only
      have hpk : ∀ (B : Nat) (b0 : Blk), ACalls Tryz.prog B 26 [.pointer (some ⟨1, 0, some 0⟩)] (b0 :: ⟨30, 0, [.slice a n v, .int .i64 x0, .int .i64 0], 0, true⟩ :: M) fun d H2 => d = .int .i64 F ∧ (b0 :: ⟨30, 0, [.slice a n v, .int .i64 x0, .int .i64 0], 0, true⟩ :: M) = H2 := fun B b0 =>
        ACalls.ofP hfl (.cons (Bor.ptrL (blk := ⟨30, 0, [.slice a n v, .int .i64 x0, .int .i64 0], 0, true⟩) rfl rfl rfl ⟨_, .cons (hSM.bor [b0, _] rfl) (.cons (.same _ (.flat _ rfl)) (.cons (.same _ (.flat _ rfl)) .nil)), rfl⟩ (by simp)) .nil) rfl ⟨rfl, rfl⟩
      have hbor : ∀ b0 b1 : Blk, Bor (b0 :: b1 :: M) (.slice a n v) (islE intE (lw.map fun w => (numD 3 w).1)) := fun b0 b1 => hSM.bor [b0, b1] rfl
      clear hSM hfl
      repeat' (first | (refine AWp.mixedT (id := 17) (.cons 0 0 (.cons 1 0 (.cons 2 0 (.cons 3 1 (.alt 4 1 (.alt 5 1 (.cons 6 2 (.cons 7 0 .nil)) (.cons 6 2 (.cons 5 0 (.cons 7 0 .nil)))) (.cons 6 2 (.cons 4 0 (.cons 5 0 (.cons 7 0 .nil))))))))) (by kernel_rfl) (by kernel_rfl) ?_) | (refine mopsT_step0 rfl rfl fun KC => ?_) | (refine mopsT_step1 rfl fun KC => ?_) | (refine mopsT_step2 rfl fun KC => ?_) | (refine mopsT_alt1 rfl (fun KC => ?_) ?_) | (refine ACalls.start ?_; first | (refine ACalls.get (hpk _ _) (by first | exact Nat.le_refl _ | exact Nat.zero_le _ | (simp only [List.length_append, List.length_cons, List.length_nil]; omega) | (simp only [List.length_set]; omega) | omega) (by first | exact Nat.le_refl _ | exact Nat.zero_le _ | (simp only [List.length_append, List.length_cons, List.length_nil]; omega) | (simp only [List.length_set]; omega) | omega) ?_; rintro _ _ ⟨rfl, rfl⟩)) | (refine KV.run _ ?_) | (refine KT.run _ ?_) | (refine AWp.seqH fun KC => ?_) | (refine AWp.region ?_) | (refine AWp.ret ?_) | (refine AWp.skip ?_) | (refine AWp.exit ?_) | (refine aops_callH rfl fun kC => ?_) | (refine AWp.condB ?_) | (simp only [bse, wk, tys, storeH_ptr, Nat.reduceEqDiff, ↓reduceIte, reduceCtorEq, Nat.reduceAdd, Nat.reduceLeDiff, Int.reduceBEq, Int.reduceLT, Int.reduceLE, Int.reduceEq, ne_eq, not_false_eq_true, Nat.reduceMul, ruleE_val, ruleE_sz, Int.cast_ofNat_Int, *]))
      all_goals try
        refine ACalls.get (hpk (M.length + 1 + 1) _) (by simp) (Nat.le_refl _) ?_
        rintro _ _ ⟨rfl, rfl⟩
        skip
      all_goals exact Bor.tupleL (.cons (Bor.aggL (.cons (hbor _ _) (.cons (.same _ (.flat _ rfl)) (.cons (.same _ (.flat _ rfl)) .nil)))) (.cons (.same _ (.flat _ rfl)) .nil))
theorem l2Parse5 (t w0 w1 w2 w3 w4 : List UInt8) (hw : cutL 32 t = [w0, w1, w2, w3, w4]) (hof : w1 = [111, 102]) (ht : t.length ≤ 300) (R : TRule × Bool) (hR : R = (⟨keysD w2, (numD 1 w0).1, (numD 3 w4).1⟩, (numD 1 w0).2 && keysOk w2 && ((numD 3 w4).2 && (w3 == [97, 102, 116, 101, 114]) && decide (0 < (numD 3 w4).1)) && (ruleFault (keysD w2) (numD 1 w0).1 (numD 3 w4).1 == 0))) : PCalls Tryz.prog 34 [.string (bs t)] (.tuple #[ruleE.val R.1, .bool R.2]) := by
  have hsp := spec_l2Cut t 32 32 rfl (by omega)
  have hW : cutW 32 t = [bs w0, bs w1, bs w2, bs w3, bs w4] := by unfold cutW; rw [hw]; rfl
  rw [hW] at hsp
  have hlt := cutL_mem 32 t
  rw [hw] at hlt
  have q3 : (((5 : Nat) : Int) == 3) = false := rfl
  have q5 : (((5 : Nat) : Int) == 5) = true := rfl
  have ix0 : ∀ H : AH, idxV Tryz.prog H 24 (islE strE [bs w0, bs w1, bs w2, bs w3, bs w4]) (.int .i64 0) = some (ip [.string (bs w0), .string (bs w1), .string (bs w2), .string (bs w3), .string (bs w4)]) := fun H => idxV_isl (P := Tryz.prog) (H := H) (n := 5) (k := 0) (kd := .i64) (cs := strE.flat [bs w0, bs w1, bs w2, bs w3, bs w4]) elZ24 (by omega)
  have ix1 : ∀ H : AH, idxV Tryz.prog H 24 (islE strE [bs w0, bs w1, bs w2, bs w3, bs w4]) (.int .i64 1) = some (ip [.string (bs w1), .string (bs w2), .string (bs w3), .string (bs w4)]) := fun H => idxV_isl (P := Tryz.prog) (H := H) (n := 5) (k := 1) (kd := .i64) (cs := strE.flat [bs w0, bs w1, bs w2, bs w3, bs w4]) elZ24 (by omega)
  have ix2 : ∀ H : AH, idxV Tryz.prog H 24 (islE strE [bs w0, bs w1, bs w2, bs w3, bs w4]) (.int .i64 2) = some (ip [.string (bs w2), .string (bs w3), .string (bs w4)]) := fun H => idxV_isl (P := Tryz.prog) (H := H) (n := 5) (k := 2) (kd := .i64) (cs := strE.flat [bs w0, bs w1, bs w2, bs w3, bs w4]) elZ24 (by omega)
  have ix3 : ∀ H : AH, idxV Tryz.prog H 24 (islE strE [bs w0, bs w1, bs w2, bs w3, bs w4]) (.int .i64 3) = some (ip [.string (bs w3), .string (bs w4)]) := fun H => idxV_isl (P := Tryz.prog) (H := H) (n := 5) (k := 3) (kd := .i64) (cs := strE.flat [bs w0, bs w1, bs w2, bs w3, bs w4]) elZ24 (by omega)
  have ix4 : ∀ H : AH, idxV Tryz.prog H 24 (islE strE [bs w0, bs w1, bs w2, bs w3, bs w4]) (.int .i64 4) = some (ip [.string (bs w4)]) := fun H => idxV_isl (P := Tryz.prog) (H := H) (n := 5) (k := 4) (kd := .i64) (cs := strE.flat [bs w0, bs w1, bs w2, bs w3, bs w4]) elZ24 (by omega)
  have ld := ld_str
  have hof' : (bs w1 == ⟨#[111, 102]⟩) = true := by rw [show (bs w1 == ⟨#[111, 102]⟩) = (w1 == [111, 102]) from bs_beq w1 [111, 102]]; simpa using hof
  have m0 : PCalls Tryz.prog 58 [.string (bs w0), .int .i64 1] (.tuple #[.int .i64 (numD 1 w0).1, .bool (numD 1 w0).2]) := spec_l2Number w0 1 (by omega) (by have := hlt w0 (by simp); omega)
  have m4 : PCalls Tryz.prog 58 [.string (bs w4), .int .i64 3] (.tuple #[.int .i64 (numD 3 w4).1, .bool (numD 3 w4).2]) := spec_l2Number w4 3 (by omega) (by have := hlt w4 (by simp); omega)
  have haf : (bs w3 == ⟨#[97, 102, 116, 101, 114]⟩) = (w3 == [97, 102, 116, 101, 114]) := bs_beq w3 [97, 102, 116, 101, 114]
  have hsc := spec_l2Cut w2 44 44 rfl (by have := hlt w2 (by simp); omega)
  have hwl : ∀ w ∈ cutL 44 w2, w.length ≤ 300 := fun w hw => by have := cutL_mem 44 w2 w hw; have := hlt w2 (by simp); omega
  have hln : (cutL 44 w2).length ≤ 301 := by have := cutL_len 44 w2; have := hlt w2 (by simp); omega
  have hcw : cutW 44 w2 = (cutL 44 w2).map bs := rfl
  rw [hcw] at hsc
  clear hW hlt hw ht hcw hof
  unfold keysD keysOk at hR
  generalize cutL 44 w2 = lw at hsc hwl hln hR
  have hml : (lw.map bs).length = lw.length := List.length_map ..
  have hnum : ∀ (k : Nat) (hk : k < lw.length), PCalls Tryz.prog 58 [.string (bs lw[k]), .int .i64 3] (.tuple #[.int .i64 (numD 3 lw[k]).1, .bool (numD 3 lw[k]).2]) := fun k hk => spec_l2Number lw[k] 3 (by omega) (by have := hwl _ (List.getElem_mem hk); omega)
  generalize numD 1 w0 = r0 at m0 hR
  obtain ⟨x0, o0⟩ := r0
  generalize numD 3 w4 = r4 at m4 hR
  obtain ⟨x4, o4⟩ := r4
  obtain ⟨o3, ho3⟩ : ∃ o3, o3 = (w3 == [97, 102, 116, 101, 114]) := ⟨_, rfl⟩
  rw [← ho3] at haf hR
  clear ho3
  dsimp only at m0 hR m4
  have hfl := spec_l2Fault (lw.map fun w => (numD 3 w).1) x0 x4 (by rw [List.length_map]; omega)
  obtain ⟨F, hFe⟩ : ∃ F, F = ruleFault (lw.map fun w => (numD 3 w).1) x0 x4 := ⟨_, rfl⟩
  rw [← hFe] at hfl hR
  have hRH : Hid _ := hR
  clear hFe hwl hR
  refine PCalls.of ?_; refine ACalls.enter (n := 100) (rs := [.cell 2 30, .tmp 3]) Tryz.func34 rfl rfl rfl (by kernel_rfl) (by kernel_rfl) (by kernel_rfl) (Nat.le_of_ble_eq_true rfl) ?_
  repeat' (first | (refine ACalls.start ?_; first | (refine ACalls.ofJi (hsp) rfl ?_) | (refine ACalls.ofJi (m0) rfl ?_) | (refine ACalls.ofJi (hsc) rfl ?_)) | (refine KV.run _ ?_) | (refine KT.run _ ?_) | (refine AWp.seqH fun KC => ?_) | (refine AWp.block ?_) | (refine AWp.region ?_) | (refine AWp.skip ?_) | (refine aops_callH rfl fun kC => ?_) | (refine AWp.condB ?_) | (simp only [bse, wk, tys, storeH_ptr, Nat.reduceEqDiff, ↓reduceIte, reduceCtorEq, Nat.reduceAdd, Nat.reduceLeDiff, Int.reduceBEq, Int.reduceLT, Int.reduceLE, Int.reduceEq, ne_eq, not_false_eq_true, Nat.reduceMul, ruleE_val, ruleE_sz, Int.cast_ofNat_Int, *]))
  refine AWp.loopH [44, 45, 46, 47, 51, 52, 53, 54, 55, 50, 56, 57, 10, 11, 58, 59, 60, 61, 6, 62, 63, 64, 65, 66, 67, 48, 49, 9] (fun m e2 H2 => ∃ (k : Nat) (acc : Bool) (a : Option Addr) (n v : Nat) (M : AH), k ≤ lw.length ∧ m = lw.length - k ∧ e2 9 = .int .i64 k ∧ e2 6 = .bool acc ∧ H2 = ⟨30, 0, [.slice none 0 0, .int .i64 0, .int .i64 0], 0, true⟩ :: ⟨30, 0, [.slice a n v, .int .i64 x0, .int .i64 0], 0, true⟩ :: M ∧ Hid (SlM 2 2 intE M a n v ((lw.take k).map fun w => (numD 3 w).1)) ∧ Hid (acc = (o0 && (lw.take k).all fun w => (numD 3 w).2))) lw.length ⟨0, _, none, 0, 0, [], by omega, by omega, rfl, rfl, rfl, SlM.nil _ _ _ _, by unfold Hid; simp⟩ ?_
  rintro m e2 H2 hA ⟨k, acc, a, n, v, M, hk, rfl, e9, e6, rfl, hM, hacc⟩ hJ
  have a2 := hA 2 rfl; have a3 := hA 3 rfl; have a4 := hA 4 rfl; have a7 := hA 7 rfl; have a8 := hA 8 rfl; try simp only [bse, wk, tys, storeH_ptr, Nat.reduceEqDiff, ↓reduceIte, reduceCtorEq, Nat.reduceAdd, Nat.reduceLeDiff, Int.reduceBEq, Int.reduceLT, Int.reduceLE, Int.reduceEq, ne_eq, not_false_eq_true, Nat.reduceMul] at a2 a3 a4 a7 a8; clear hA
  by_cases hkl : k < lw.length
  · have hlt' : (k : Int) < (lw.length : Int) := by omega
    have hw := wr_succ (k := k) (by omega)
    have hkb : (lw.map bs)[k]'(by omega) = bs lw[k] := List.getElem_map ..
    have hn := hnum k hkl
    have hst : Hid ((acc && (numD 3 lw[k]).2) = (o0 && (lw.take (k + 1)).all fun w => (numD 3 w).2)) := by unfold Hid; rw [all_step _ _ _ hkl, ← Bool.and_assoc, ← hacc.out]
    have hmp := map_step (fun w => (numD 3 w).1) lw k hkl
    have hyl : ((lw.take k).map fun w => (numD 3 w).1).length = k := by rw [List.length_map, List.length_take]; omega
    obtain ⟨a', n', v', M', hap, hM', _, _⟩ := hM.out.app (P := Tryz.prog) (B := 0) [⟨30, 0, [.slice none 0 0, .int .i64 0, .int .i64 0], 0, true⟩, ⟨30, 0, [.slice a n v, .int .i64 x0, .int .i64 0], 0, true⟩] rfl (M.length + 1 + 1) (by omega) elZ28 elZ28 zOk28 (Nat.zero_le _) (numD 3 lw[k]).1 (by omega) (by omega)
    simp only [intE_sz, intE_val, cells_int, List.cons_append, List.nil_append] at hap
    rw [← hmp] at hM'
    have hM2 : Hid _ := hM'
    clear hM' hM hmp hyl hacc hnum hfl
    generalize (numD 3 lw[k]).1 = y at hn hap
    generalize (numD 3 lw[k]).2 = g at hn hst
    have h3 : acc = false ∨ (acc = true ∧ g = false) ∨ (acc = true ∧ g = true) := by cases acc <;> cases g <;> simp
    rcases h3 with rfl | ⟨rfl, rfl⟩ | ⟨rfl, rfl⟩
    all_goals
      simp only [Bool.false_and, Bool.and_false, Bool.true_and, Bool.and_true] at hst
      repeat' (first | (refine ACalls.start ?_; first | (refine ACalls.ofJi (hn) rfl ?_)) | (refine KV.run _ ?_) | (refine KT.run _ ?_) | (refine AWp.seqH fun KC => ?_) | (refine AWp.block ?_) | (refine AWp.region ?_) | (refine AWp.skip ?_) | (refine aops_callH rfl fun kC => ?_) | (refine AWp.condB ?_) | (simp only [bse, wk, tys, storeH_ptr, Nat.reduceEqDiff, ↓reduceIte, reduceCtorEq, Nat.reduceAdd, Nat.reduceLeDiff, Int.reduceBEq, Int.reduceLT, Int.reduceLE, Int.reduceEq, ne_eq, not_false_eq_true, Nat.reduceMul, ruleE_val, ruleE_sz, Int.cast_ofNat_Int, *]))
      exact hJ.out _ _ ⟨lw.length - (k + 1), by omega, k + 1, _, a', n', v', M', by omega, rfl, rfl, rfl, rfl, hM2.out, hst⟩ (by repeat (first | exact Agree.refl _ _ | assumption | refine Agree.put ?_ rfl _))
  · have hlt' : ¬ (k : Int) < (lw.length : Int) := by omega
    have hke : k = lw.length := by omega
    subst hke
    rw [List.take_length] at hM hacc
    have hSM := hM.out
    have hR2 : R = (⟨lw.map fun w => (numD 3 w).1, x0, x4⟩, acc && (o4 && o3 && decide (0 < x4)) && (F == 0)) := by rw [hRH.out, hacc.out]
    clear hRH hacc hM hnum
    obtain ⟨f0, hf0⟩ : ∃ f0, f0 = (F == 0) := ⟨_, rfl⟩
    rw [← hf0] at hR2
    have hf0' := hf0.symm
    clear hf0
    have h3 : acc = false ∨ (acc = true ∧ o4 = false) ∨ (acc = true ∧ o4 = true ∧ o3 = false) ∨ (acc = true ∧ o4 = true ∧ o3 = true ∧ ¬ 0 < x4) ∨ (acc = true ∧ o4 = true ∧ o3 = true ∧ 0 < x4) := by by_cases hx : 0 < x4 <;> cases acc <;> cases o4 <;> cases o3 <;> simp [hx]
    rcases h3 with rfl | ⟨rfl, rfl⟩ | ⟨rfl, rfl, rfl⟩ | ⟨rfl, rfl, rfl, hx4⟩ | ⟨rfl, rfl, rfl, hx4⟩
    all_goals
      simp only [Bool.false_and, Bool.and_false, Bool.true_and, Bool.and_true, decide_true, decide_false, *] at hR2
      subst hR2
      dsimp only
      have hpk : ∀ (B : Nat) (b0 : Blk), ACalls Tryz.prog B 26 [.pointer (some ⟨1, 0, some 0⟩)] (b0 :: ⟨30, 0, [.slice a n v, .int .i64 x0, .int .i64 x4], 0, true⟩ :: M) fun d H2 => d = .int .i64 F ∧ (b0 :: ⟨30, 0, [.slice a n v, .int .i64 x0, .int .i64 x4], 0, true⟩ :: M) = H2 := fun B b0 =>
        ACalls.ofP hfl (.cons (Bor.ptrL (blk := ⟨30, 0, [.slice a n v, .int .i64 x0, .int .i64 x4], 0, true⟩) rfl rfl rfl ⟨_, .cons (hSM.bor [b0, _] rfl) (.cons (.same _ (.flat _ rfl)) (.cons (.same _ (.flat _ rfl)) .nil)), rfl⟩ (by simp)) .nil) rfl ⟨rfl, rfl⟩
      have hbor : ∀ b0 b1 : Blk, Bor (b0 :: b1 :: M) (.slice a n v) (islE intE (lw.map fun w => (numD 3 w).1)) := fun b0 b1 => hSM.bor [b0, b1] rfl
      clear hSM hfl
      repeat' (first | (refine AWp.mixedT (id := 17) (.cons 0 0 (.cons 1 0 (.cons 2 0 (.cons 3 1 (.alt 4 1 (.alt 5 1 (.cons 6 2 (.cons 7 0 .nil)) (.cons 6 2 (.cons 5 0 (.cons 7 0 .nil)))) (.cons 6 2 (.cons 4 0 (.cons 5 0 (.cons 7 0 .nil))))))))) (by kernel_rfl) (by kernel_rfl) ?_) | (refine mopsT_step0 rfl rfl fun KC => ?_) | (refine mopsT_step1 rfl fun KC => ?_) | (refine mopsT_step2 rfl fun KC => ?_) | (refine mopsT_alt1 rfl (fun KC => ?_) ?_) | (refine ACalls.start ?_; first | (refine ACalls.ofJi (m4) rfl ?_) | (refine ACalls.get (hpk _ _) (by first | exact Nat.le_refl _ | exact Nat.zero_le _ | (simp only [List.length_append, List.length_cons, List.length_nil]; omega) | (simp only [List.length_set]; omega) | omega) (by first | exact Nat.le_refl _ | exact Nat.zero_le _ | (simp only [List.length_append, List.length_cons, List.length_nil]; omega) | (simp only [List.length_set]; omega) | omega) ?_; rintro _ _ ⟨rfl, rfl⟩)) | (refine KV.run _ ?_) | (refine KT.run _ ?_) | (refine AWp.seqH fun KC => ?_) | (refine AWp.region ?_) | (refine AWp.ret ?_) | (refine AWp.exit ?_) | (refine aops_callH rfl fun kC => ?_) | (refine AWp.condB ?_) | (simp only [bse, wk, tys, storeH_ptr, Nat.reduceEqDiff, ↓reduceIte, reduceCtorEq, Nat.reduceAdd, Nat.reduceLeDiff, Int.reduceBEq, Int.reduceLT, Int.reduceLE, Int.reduceEq, ne_eq, not_false_eq_true, Nat.reduceMul, ruleE_val, ruleE_sz, Int.cast_ofNat_Int, *]))
      all_goals try
        refine ACalls.get (hpk (M.length + 1 + 1) _) (by simp) (Nat.le_refl _) ?_
        rintro _ _ ⟨rfl, rfl⟩
        skip
      all_goals exact Bor.tupleL (.cons (Bor.aggL (.cons (hbor _ _) (.cons (.same _ (.flat _ rfl)) (.cons (.same _ (.flat _ rfl)) .nil)))) (.cons (.same _ (.flat _ rfl)) .nil))
theorem l2ParseN (t : List UInt8) (hw : ¬ (cutL 32 t).length = 3) (hw5 : ¬ (cutL 32 t).length = 5) (ht : t.length ≤ 300) : PCalls Tryz.prog 34 [.string (bs t)] (.tuple #[ruleE.val rule0, .bool false]) := by
  have hsp := spec_l2Cut t 32 32 rfl (by omega)
  have hcl : (cutW 32 t).length = (cutL 32 t).length := List.length_map ..
  have q3 : (((cutW 32 t).length : Int) == 3) = false := by rw [hcl]; simp; omega
  have q5 : (((cutW 32 t).length : Int) == 5) = false := by rw [hcl]; simp; omega
  clear hcl hw hw5
  refine PCalls.of ?_; refine ACalls.enter (n := 100) (rs := [.cell 2 30, .tmp 3]) Tryz.func34 rfl rfl rfl (by kernel_rfl) (by kernel_rfl) (by kernel_rfl) (Nat.le_of_ble_eq_true rfl) ?_
  repeat' (first | (refine ACalls.start ?_; first | (refine ACalls.ofJi (hsp) rfl ?_)) | (refine KV.run _ ?_) | (refine KT.run _ ?_) | (refine AWp.seqH fun KC => ?_) | (refine AWp.region ?_) | (refine AWp.ret ?_) | (refine aops_callH rfl fun kC => ?_) | (refine AWp.condB ?_) | (simp only [bse, wk, tys, storeH_ptr, Nat.reduceEqDiff, ↓reduceIte, reduceCtorEq, Nat.reduceAdd, Nat.reduceLeDiff, Int.reduceBEq, Int.reduceLT, Int.reduceLE, Int.reduceEq, ne_eq, not_false_eq_true, Nat.reduceMul, ruleE_val, ruleE_sz, Int.cast_ofNat_Int, *]))
  all_goals exact bor_rule0 false
theorem l2ParseO (t w0 w1 : List UInt8) (ws : List (List UInt8)) (hw : cutL 32 t = w0 :: w1 :: ws) (hl : ((ws.length + 1 + 1 : Nat) : Int) = 3 ∨ ((ws.length + 1 + 1 : Nat) : Int) = 5) (h1 : ¬ w1 = [111, 102]) (ht : t.length ≤ 300) : PCalls Tryz.prog 34 [.string (bs t)] (.tuple #[ruleE.val rule0, .bool false]) := by
  have hsp := spec_l2Cut t 32 32 rfl (by omega)
  obtain ⟨W, hW⟩ : ∃ W, W = cutW 32 t := ⟨_, rfl⟩
  have hWe : W = bs w0 :: bs w1 :: ws.map bs := by rw [hW]; unfold cutW; rw [hw]; rfl
  have hWl : W.length = ws.length + 1 + 1 := by rw [hWe]; simp
  rw [← hW] at hsp
  have hof' : (bs w1 == ⟨#[111, 102]⟩) = false := by rw [show (bs w1 == ⟨#[111, 102]⟩) = (w1 == [111, 102]) from bs_beq w1 [111, 102]]; simpa using h1
  have ix1 : ∀ H : AH, idxV Tryz.prog H 24 (islE strE W) (.int .i64 1) = some (ip (.string (bs w1) :: strE.flat (ws.map bs))) := fun H => by
    rw [hWe]
    exact idxV_isl (P := Tryz.prog) (H := H) (n := (bs w0 :: bs w1 :: ws.map bs).length) (k := 1) (kd := .i64) (cs := strE.flat (bs w0 :: bs w1 :: ws.map bs)) elZ24 (by simp)
  have ld := ld_str
  rw [← hWl] at hl
  have hl2 : ((W.length : Int) == 3) = true ∨ (((W.length : Int) == 3) = false ∧ ((W.length : Int) == 5) = true) := by
    rcases hl with h | h <;> rw [h] <;> simp
  clear hl hWl hWe hW h1 hw
  rcases hl2 with hl | ⟨hl, hl5⟩
  · refine PCalls.of ?_; refine ACalls.enter (n := 100) (rs := [.cell 2 30, .tmp 3]) Tryz.func34 rfl rfl rfl (by kernel_rfl) (by kernel_rfl) (by kernel_rfl) (Nat.le_of_ble_eq_true rfl) ?_
    repeat' (first | (refine ACalls.start ?_; first | (refine ACalls.ofJi (hsp) rfl ?_)) | (refine KV.run _ ?_) | (refine KT.run _ ?_) | (refine AWp.seqH fun KC => ?_) | (refine AWp.region ?_) | (refine AWp.ret ?_) | (refine aops_callH rfl fun kC => ?_) | (refine AWp.condB ?_) | (simp only [bse, wk, tys, storeH_ptr, Nat.reduceEqDiff, ↓reduceIte, reduceCtorEq, Nat.reduceAdd, Nat.reduceLeDiff, Int.reduceBEq, Int.reduceLT, Int.reduceLE, Int.reduceEq, ne_eq, not_false_eq_true, Nat.reduceMul, ruleE_val, ruleE_sz, Int.cast_ofNat_Int, *]))
    all_goals exact bor_rule0 false
  · refine PCalls.of ?_; refine ACalls.enter (n := 100) (rs := [.cell 2 30, .tmp 3]) Tryz.func34 rfl rfl rfl (by kernel_rfl) (by kernel_rfl) (by kernel_rfl) (Nat.le_of_ble_eq_true rfl) ?_
    repeat' (first | (refine ACalls.start ?_; first | (refine ACalls.ofJi (hsp) rfl ?_)) | (refine KV.run _ ?_) | (refine KT.run _ ?_) | (refine AWp.seqH fun KC => ?_) | (refine AWp.region ?_) | (refine AWp.ret ?_) | (refine aops_callH rfl fun kC => ?_) | (refine AWp.condB ?_) | (simp only [bse, wk, tys, storeH_ptr, Nat.reduceEqDiff, ↓reduceIte, reduceCtorEq, Nat.reduceAdd, Nat.reduceLeDiff, Int.reduceBEq, Int.reduceLT, Int.reduceLE, Int.reduceEq, ne_eq, not_false_eq_true, Nat.reduceMul, ruleE_val, ruleE_sz, Int.cast_ofNat_Int, *]))
    all_goals exact bor_rule0 false
theorem spec_l2Parse (t : List UInt8) (ht : t.length ≤ 300) : PCalls Tryz.prog 34 [.string (bs t)] (.tuple #[ruleE.val (parR t).1, .bool (parR t).2]) := by
  unfold parR
  split
  · rename_i w0 w1 w2 hw
    by_cases h : w1 = [111, 102]
    · rw [if_pos h]; exact l2Parse3 t w0 w1 w2 hw h ht _ rfl
    · rw [if_neg h]; exact l2ParseO t w0 w1 [w2] hw (.inl rfl) h ht
  · rename_i w0 w1 w2 w3 w4 hw
    by_cases h : w1 = [111, 102]
    · rw [if_pos h]; exact l2Parse5 t w0 w1 w2 w3 w4 hw h ht _ rfl
    · rw [if_neg h]; exact l2ParseO t w0 w1 [w2, w3, w4] hw (.inr rfl) h ht
  · rename_i n3 n5
    refine l2ParseN t (fun e => ?_) (fun e => ?_) ht
    · match hq : cutL 32 t, e with
      | [a, b, d], _ => exact n3 a b d hq
    · match hq : cutL 32 t, e with
      | [a, b, d, f, g], _ => exact n5 a b d f g hq
end Go.BM
/- The text of a transaction: the reference. -/
set_option linter.unusedVariables false
set_option linter.unusedSimpArgs false
set_option maxRecDepth 100000
set_option maxHeartbeats 4000000
namespace Go.BM
open Go.Proofs Go.RowKit
attribute [local irreducible] ACalls AWp aops qops optK optP cK gateA condK mops qcallK PCalls loadV fldV idxV lenV slV storeH binS
theorem digit_ne (n : Nat) : ∀ b ∈ Lib.decDigits n, 48 ≤ b.toNat ∧ b.toNat ≤ 57 := by
  induction n using Nat.strongRecOn with
  | _ n ih =>
    intro b hb
    by_cases h : n < 10
    · rw [Lib.decDigits, dif_pos h] at hb
      simp at hb
      subst hb
      simp
      omega
    · rw [Lib.decDigits, dif_neg h] at hb
      simp at hb
      rcases hb with hb | rfl
      · exact ih _ (by omega) b hb
      · simp
        omega
end Go.BM
/- A transaction read out of a text: the reference; plain functions, and where there is none. -/
set_option linter.unusedVariables false
set_option linter.unusedSimpArgs false
set_option maxRecDepth 100000
set_option maxHeartbeats 4000000
namespace Go.BM
open Go.Proofs Go.RowKit
attribute [local irreducible] ACalls AWp aops qops optK optP cK gateA condK mops qcallK PCalls loadV fldV idxV lenV slV storeH binS
theorem parR_ok {t : List UInt8} (h : (parR t).2 = true) : ruleFault (parR t).1.keys (parR t).1.need (parR t).1.after = 0 := by
  unfold parR at h ⊢
  split at h
  · split at h
    · rename_i h1
      rw [if_pos h1]
      simp only [Bool.and_eq_true, beq_iff_eq] at h
      exact h.2
    · cases h
  · split at h
    · rename_i h1
      rw [if_pos h1]
      simp only [Bool.and_eq_true, beq_iff_eq] at h
      exact h.2
    · cases h
  · cases h
end Go.BM
/- A block read out of a text: both sides read the same. -/
set_option linter.unusedVariables false
set_option linter.unusedSimpArgs false
set_option maxRecDepth 100000
set_option maxHeartbeats 4000000
namespace Go.BM
open Go.Proofs Go.RowKit
attribute [local irreducible] ACalls AWp aops qops optK optP cK gateA condK mops qcallK PCalls loadV fldV idxV lenV slV storeH binS
theorem dd1 {u : Nat} (h : u < 10) : Lib.decDigits u = [UInt8.ofNat (48 + u)] := by rw [Lib.decDigits, dif_pos h]
theorem dd2 {u : Nat} (h : 10 ≤ u) (h2 : u < 100) : Lib.decDigits u = [UInt8.ofNat (48 + u / 10), UInt8.ofNat (48 + u % 10)] := by
  rw [Lib.decDigits, dif_neg (by omega), dd1 (by omega)]
  rfl
theorem dd3 {u : Nat} (h : 100 ≤ u) (h2 : u < 1000) : Lib.decDigits u = [UInt8.ofNat (48 + u / 100), UInt8.ofNat (48 + u / 10 % 10), UInt8.ofNat (48 + u % 10)] := by
  rw [Lib.decDigits, dif_neg (by omega), dd2 (by omega) (by omega), show u / 10 / 10 = u / 100 by omega]
  rfl
theorem ofNat_nat {n : Nat} (h : n < 256) : (UInt8.ofNat n).toNat = n := by
  rw [UInt8.toNat_ofNat']
  exact Nat.mod_eq_of_lt h
theorem dig_of {d : Nat} (h : d < 10) : digB (UInt8.ofNat (48 + d)) = true ∧ (UInt8.ofNat (48 + d)).toNat - 48 = d := by
  have e := ofNat_nat (n := 48 + d) (by omega)
  refine ⟨?_, by omega⟩
  unfold digB
  rw [e]
  simp
  omega
theorem u8_of_nat {x : UInt8} {n : Nat} (h : x.toNat = n) : x = UInt8.ofNat n := by
  rw [← h]
  simp
theorem not0 {d : Nat} (h : 1 ≤ d) (h2 : d < 10) : UInt8.ofNat (48 + d) ≠ 48 := fun e => by
  have h3 := ofNat_nat (n := 48 + d) (by omega)
  rw [e] at h3
  have : (48 : UInt8).toNat = 48 := rfl
  omega
/-- What is read as a number of few digits is that number's digits. -/
theorem numD_ok {n : Nat} {w : List UInt8} (h3 : n ≤ 3) (h : (numD n w).2 = true) : ∃ u : Nat, (numD n w).1 = u ∧ w = Lib.decDigits u ∧ u < 1000 := by
  unfold numD at h ⊢
  by_cases hc : (decide ((w.length : Int) < 1) || decide ((n : Int) < (w.length : Int)) || (decide ((1 : Int) < (w.length : Int)) && decide (w.getD 0 0 = 48))) = true
  · rw [if_pos hc] at h; simp at h
  · rw [if_neg hc] at h ⊢
    by_cases hd : w.all digB = true
    · rw [if_pos hd]
      simp only [Bool.or_eq_true, Bool.and_eq_true, decide_eq_true_eq, not_or, not_and] at hc
      obtain ⟨⟨c1, c2⟩, c3⟩ := hc
      have db : ∀ x : UInt8, digB x = true → ∃ d, d < 10 ∧ x = UInt8.ofNat (48 + d) ∧ x.toNat - 48 = d := fun x hx => by
        obtain ⟨_, h1, h2⟩ := dig_wrap hx
        exact ⟨x.toNat - 48, by omega, u8_of_nat (by omega), rfl⟩
      match w, c1, c2, c3, hd with
      | [], c1, _, _, _ => simp at c1
      | [a], _, _, _, hd =>
        simp at hd
        obtain ⟨d, h1, h2, h4⟩ := db a hd
        refine ⟨d, by simp [valD, h4], ?_, by omega⟩
        rw [dd1 h1, h2]
      | [a, b], _, _, c3, hd =>
        simp at hd
        obtain ⟨d, h1, h2, h4⟩ := db a hd.1
        obtain ⟨e, g1, g2, g4⟩ := db b hd.2
        have hz : d ≠ 0 := fun hz => by
          subst hz
          exact c3 (by simp) (by simp [h2])
        refine ⟨d * 10 + e, by simp [valD, h4, g4], ?_, by omega⟩
        rw [dd2 (by omega) (by omega), h2, g2, show (d * 10 + e) / 10 = d by omega, show (d * 10 + e) % 10 = e by omega]
      | [a, b, c], _, _, c3, hd =>
        simp at hd
        obtain ⟨d, h1, h2, h4⟩ := db a hd.1
        obtain ⟨e, g1, g2, g4⟩ := db b hd.2.1
        obtain ⟨f, k1, k2, k4⟩ := db c hd.2.2
        have hz : d ≠ 0 := fun hz => by
          subst hz
          exact c3 (by simp) (by simp [h2])
        refine ⟨(d * 10 + e) * 10 + f, by simp [valD, h4, g4, k4], ?_, by omega⟩
        rw [dd3 (by omega) (by omega), h2, g2, k2, show ((d * 10 + e) * 10 + f) / 100 = d by omega, show ((d * 10 + e) * 10 + f) / 10 % 10 = e by omega, show ((d * 10 + e) * 10 + f) % 10 = f by omega]
      | _ :: _ :: _ :: _ :: _, _, c2, _, _ => simp at c2; omega
    · rw [if_neg hd] at h; simp at h
theorem join_cut (c : UInt8) : ∀ l : List UInt8, Lib.join (cutL c l) [c] = l
  | [] => by simp [cutL, Lib.join_one]
  | x :: l => by
    have ih := join_cut c l
    unfold cutL
    split
    · rename_i hx
      subst hx
      cases hq : cutL x l with
      | nil => exact absurd hq (cutL_ne x l)
      | cons w ws =>
        rw [hq] at ih
        rw [Lib.join_cons] at ih ⊢
        unfold Lib.joinTail at ih ⊢
        simp at ih ⊢
        exact ih
    · split
      · rename_i hq; exact absurd hq (cutL_ne c l)
      · rename_i w ws hq
        rw [hq] at ih
        rw [Lib.join_cons] at ih ⊢
        rw [List.cons_append, ih]
end Go.BM
/- Texts of transactions: both sides read back what was told. -/
set_option linter.unusedVariables false
set_option linter.unusedSimpArgs false
set_option maxRecDepth 100000
set_option maxHeartbeats 4000000
namespace Go.BM
open Go.Proofs Go.RowKit
attribute [local irreducible] ACalls AWp aops qops optK optP cK gateA condK mops qcallK PCalls loadV fldV idxV lenV slV storeH binS
open Go.Proofs
theorem dec_snoc {u : Nat} (h : ¬ u < 10) : Lib.decDigits u = Lib.decDigits (u / 10) ++ [UInt8.ofNat (48 + u % 10)] := by rw [Lib.decDigits, dif_neg h]
theorem dec_head (u : Nat) : ∃ d r, d < 10 ∧ Lib.decDigits u = UInt8.ofNat (48 + d) :: r ∧ (¬ u < 10 → 1 ≤ d) := by
  induction u using Nat.strongRecOn with
  | _ u ih =>
    by_cases h : u < 10
    · exact ⟨u, [], h, dd1 h, fun h2 => absurd h h2⟩
    · obtain ⟨d, r, h1, h2, h3⟩ := ih (u / 10) (by omega)
      refine ⟨d, r ++ [UInt8.ofNat (48 + u % 10)], h1, by rw [dec_snoc h, h2]; rfl, fun _ => ?_⟩
      by_cases h4 : u / 10 < 10
      · rw [dd1 h4] at h2
        injection h2 with h2 _
        have e1 := ofNat_nat (n := 48 + u / 10) (by omega)
        have e2 := ofNat_nat (n := 48 + d) (by omega)
        rw [h2] at e1
        omega
      · exact h3 h4
theorem pu_dec (M : Nat) (hM : 100000000 ≤ M) (u : Nat) : u ≤ 99999999 → ∀ r, Lib.parseUintM M 0 (Lib.decDigits u ++ r) = Lib.parseUintM M u r := by
  induction u using Nat.strongRecOn with
  | _ u ih =>
    intro hu r
    have step : ∀ (acc d : Nat), d < 10 → acc ≤ 9999999 → Lib.parseUintM M acc (UInt8.ofNat (48 + d) :: r) = Lib.parseUintM M (acc * 10 + d) r := fun acc d hd ha => by
      have e := ofNat_nat (n := 48 + d) (by omega)
      rw [Lib.parseUintM, e, if_pos (by omega), if_neg (by omega), if_neg (by omega), show 48 + d - 48 = d by omega]
    by_cases h : u < 10
    · rw [dd1 h, List.cons_append, List.nil_append, step 0 u h (by omega)]
      congr 1
      omega
    · rw [dec_snoc h, List.append_assoc, ih (u / 10) (by omega) (by omega), List.cons_append, List.nil_append, step (u / 10) (u % 10) (by omega) (by omega)]
      congr 1
      omega
theorem parse_dec7 {u : Nat} (h : u ≤ 99999999) : Lib.parseIntB 64 (Lib.decDigits u) = .ok (u : Int) := by
  have hp := pu_dec (2 ^ 64 - 1) (by decide) u h []
  rw [List.append_nil] at hp
  have h0 : Lib.parseUintM (2 ^ 64 - 1) u [] = .ok u := by simp [Lib.parseUintM]
  rw [h0] at hp
  obtain ⟨d, r, h1, h2, _⟩ := dec_head u
  rw [h2] at hp ⊢
  have e := ofNat_nat (n := 48 + d) (by omega)
  unfold Lib.parseIntB
  simp only [e]
  rw [if_neg (by omega)]
  unfold Lib.parseUintB
  rw [if_neg (by simp), hp]
  dsimp only
  rw [if_neg (by simp; omega), if_neg (by omega), if_neg (by omega)]
theorem numL_dec7 {u : Nat} (h : u ≤ 9999999) : numL (Lib.decDigits u) = (u : Int) := by
  unfold numL numF
  rw [bs_list, parse_dec7 (by omega)]
  dsimp only
  rw [if_pos]
  refine ⟨?_, ?_⟩
  · rw [bs_size]; have := dec_len7 (u := u) h; omega
  · rw [itoa_nat (by omega)]; simp
theorem numL_itoa {x : Int} (h0 : 0 ≤ x) (h1 : x ≤ 9999999) : numL (Lib.itoa x) = x := by
  rw [itoa_nat h0, numL_dec7 (by omega), Int.toNat_of_nonneg h0]
theorem valD_snoc (l : List UInt8) (b : UInt8) : valD (l ++ [b]) = valD l * 10 + (b.toNat - 48) := by
  unfold valD
  rw [List.foldl_append]
  rfl
theorem valD_dec (u : Nat) : valD (Lib.decDigits u) = u ∧ (Lib.decDigits u).all digB = true := by
  induction u using Nat.strongRecOn with
  | _ u ih =>
    by_cases h : u < 10
    · obtain ⟨h1, h2⟩ := dig_of h
      rw [dd1 h]
      generalize UInt8.ofNat (48 + u) = b at h1 h2 ⊢
      exact ⟨by simp [valD, h2], by simp [h1]⟩
    · obtain ⟨g1, g2⟩ := ih (u / 10) (by omega)
      obtain ⟨h1, h2⟩ := dig_of (d := u % 10) (by omega)
      rw [dec_snoc h]
      generalize UInt8.ofNat (48 + u % 10) = b at h1 h2 ⊢
      rw [valD_snoc, g1, h2, List.all_append, g2]
      exact ⟨by omega, by simp [h1]⟩
theorem dec_lenN (n u : Nat) (hn : 1 ≤ n) : u < 10 ^ n → (Lib.decDigits u).length ≤ n := by
  induction n generalizing u with
  | zero => omega
  | succ n ih =>
    intro hu
    by_cases h : u < 10
    · rw [dd1 h]; simp
    · rw [dec_snoc h, List.length_append]
      by_cases h1 : 1 ≤ n
      · have := ih (u / 10) h1 (by rw [Nat.pow_succ] at hu; omega)
        simp
        omega
      · have : n = 0 := by omega
        subst this
        simp at hu
        omega
theorem numD_decN {n u : Nat} (hn : 1 ≤ n) (hu : u < 10 ^ n) : numD n (Lib.decDigits u) = ((u : Int), true) := by
  obtain ⟨h1, h2⟩ := valD_dec u
  have hl := dec_lenN n u hn hu
  obtain ⟨d, r, g1, g2, g3⟩ := dec_head u
  unfold numD
  rw [if_neg, if_pos h2, h1]
  intro hc
  simp only [Bool.or_eq_true, Bool.and_eq_true, decide_eq_true_eq] at hc
  rcases hc with (hc | hc) | ⟨hc, hd⟩
  · rw [g2] at hc; simp at hc; omega
  · omega
  · by_cases h : u < 10
    · rw [dd1 h] at hc; simp at hc
    · rw [g2] at hd
      exact not0 (g3 h) g1 hd
theorem numD_itoa {n : Nat} {x : Int} (hn : 1 ≤ n) (h0 : 0 ≤ x) (h1 : x.toNat < 10 ^ n) : numD n (Lib.itoa x) = (x, true) := by
  rw [itoa_nat h0, numD_decN hn h1, Int.toNat_of_nonneg h0]
/-! ### words -/
theorem cutL_join (c : UInt8) : ∀ (w : List UInt8) (ws : List (List UInt8)), (∀ v ∈ w :: ws, ∀ b ∈ v, b ≠ c) → cutL c (Lib.join (w :: ws) [c]) = w :: ws
  | w, [], h => by rw [Lib.join_one]; exact cutL_one c w (h w (by simp))
  | w, v :: ws, h => by
    have ih := cutL_join c v ws fun u hu => h u (by simp at hu ⊢; exact .inr hu)
    have e : Lib.join (w :: v :: ws) [c] = w ++ c :: Lib.join (v :: ws) [c] := by
      rw [Lib.join_cons, Lib.join_cons]
      unfold Lib.joinTail
      simp
    rw [e, cutL_app c w _ (h w (by simp)), ih]
/-- No byte of a number is another one than a digit. -/
theorem itoa_no {x : Int} (h0 : 0 ≤ x) (c : UInt8) (hc : c.toNat < 48 ∨ 57 < c.toNat) : ∀ b ∈ Lib.itoa x, b ≠ c := fun b hb => by
  rw [itoa_nat h0] at hb
  have := digit_ne _ b hb
  intro e
  subst e
  omega
theorem joinTail_no (c s : UInt8) (hs : s ≠ c) : ∀ ws : List (List UInt8), (∀ w ∈ ws, ∀ b ∈ w, b ≠ c) → ∀ b ∈ Lib.joinTail [s] ws, b ≠ c
  | [], _, b, hb => by simp [Lib.joinTail] at hb
  | w :: ws, h, b, hb => by
    have ih := joinTail_no c s hs ws fun v hv => h v (by simp [hv])
    unfold Lib.joinTail at ih hb
    simp only [List.map_cons, List.flatten_cons, List.mem_append, List.mem_cons, List.not_mem_nil, or_false] at hb
    rcases hb with (rfl | hb) | hb
    · exact hs
    · exact h w (by simp) b hb
    · exact ih b hb
theorem join_no (c s : UInt8) (hs : s ≠ c) (ws : List (List UInt8)) (h : ∀ w ∈ ws, ∀ b ∈ w, b ≠ c) : ∀ b ∈ Lib.join ws [s], b ≠ c := by
  cases ws with
  | nil => intro b hb; simp [Lib.join_nil] at hb
  | cons w ws =>
    intro b hb
    rw [Lib.join_cons, List.mem_append] at hb
    rcases hb with hb | hb
    · exact h w (by simp) b hb
    · exact joinTail_no c s hs ws (fun v hv => h v (by simp [hv])) b hb
theorem joinI_no (xs : List Int) (h : ∀ x ∈ xs, 0 ≤ x) (c : UInt8) (hc : c.toNat < 48 ∨ 57 < c.toNat) (h44 : (44 : UInt8) ≠ c) : ∀ b ∈ joinI 44 xs, b ≠ c :=
  join_no c 44 h44 _ fun w hw => by
    obtain ⟨x, hx, rfl⟩ := List.mem_map.1 hw
    exact itoa_no (h x hx) c hc
theorem map_itoa_numL (xs : List Int) (h : ∀ x ∈ xs, 0 ≤ x ∧ x ≤ 9999999) : (xs.map Lib.itoa).map numL = xs := by
  rw [List.map_map]
  conv => rhs; rw [← List.map_id xs]
  exact List.map_congr_left fun x hx => numL_itoa (h x hx).1 (h x hx).2
theorem cut_joinI (xs : List Int) (hne : 1 ≤ xs.length) (h : ∀ x ∈ xs, 0 ≤ x) : cutL 44 (joinI 44 xs) = xs.map Lib.itoa := by
  cases xs with
  | nil => simp at hne
  | cons x xs =>
    unfold joinI
    rw [List.map_cons]
    refine cutL_join 44 _ _ fun w hw => ?_
    rw [← List.map_cons] at hw
    obtain ⟨y, hy, rfl⟩ := List.mem_map.1 hw
    exact itoa_no (h y hy) 44 (by decide)
/-- The words of a rule's text. -/
theorem cut_rule (c : UInt8) (hc : c = 32 ∨ c = 95) (r : TRule) (hr : ruleFault r.keys r.need r.after = 0) : cutL c (ruleT c r) = if r.after = 0 then [Lib.itoa r.need, [111, 102], joinI 44 r.keys] else [Lib.itoa r.need, [111, 102], joinI 44 r.keys, [97, 102, 116, 101, 114], Lib.itoa r.after] := by
  obtain ⟨h1, h2, h3, h4⟩ := rf_bounds hr
  have hcn : c.toNat < 48 ∨ 57 < c.toNat := by rcases hc with rfl | rfl <;> decide
  have h44 : (44 : UInt8) ≠ c := by rcases hc with rfl | rfl <;> decide
  have n1 := itoa_no (x := r.need) (by omega) c hcn
  have n2 : ∀ b ∈ ([111, 102] : List UInt8), b ≠ c := by rcases hc with rfl | rfl <;> decide
  have n3 := joinI_no r.keys (fun x hx => by have := h4 x hx; omega) c hcn h44
  have n4 : ∀ b ∈ ([97, 102, 116, 101, 114] : List UInt8), b ≠ c := by rcases hc with rfl | rfl <;> decide
  have n5 := itoa_no (x := r.after) (by omega) c hcn
  unfold ruleT
  by_cases h0 : r.after = 0
  · rw [if_pos h0, if_pos h0]
    have e : (Lib.itoa r.need ++ [c] ++ [111, 102] ++ [c] ++ joinI 44 r.keys ++ [] : List UInt8) = Lib.itoa r.need ++ c :: ([111, 102] ++ c :: joinI 44 r.keys) := by simp
    rw [e, cutL_app c _ _ n1, cutL_app c _ _ n2, cutL_one c _ n3]
  · rw [if_neg h0, if_neg h0]
    have e : (Lib.itoa r.need ++ [c] ++ [111, 102] ++ [c] ++ joinI 44 r.keys ++ ([c] ++ [97, 102, 116, 101, 114] ++ [c] ++ Lib.itoa r.after) : List UInt8) = Lib.itoa r.need ++ c :: ([111, 102] ++ c :: (joinI 44 r.keys ++ c :: ([97, 102, 116, 101, 114] ++ c :: Lib.itoa r.after))) := by simp
    rw [e, cutL_app c _ _ n1, cutL_app c _ _ n2, cutL_app c _ _ n3, cutL_app c _ _ n4, cutL_one c _ n5]
/-- A right rule's text is read back: the program. -/
theorem readR_text (c : UInt8) (hc : c = 32 ∨ c = 95) (r : TRule) (hr : ruleFault r.keys r.need r.after = 0) : readR c (ruleT c r) = (r, true) := by
  obtain ⟨h1, h2, h3, h4⟩ := rf_bounds hr
  have hl := ruleT_len c hr
  have hk : (cutL 44 (joinI 44 r.keys)).map numL = r.keys := by
    rw [cut_joinI r.keys (by omega) fun x hx => by have := h4 x hx; omega]
    exact map_itoa_numL _ fun x hx => by have := h4 x hx; omega
  unfold readR
  rw [if_neg (by omega), cut_rule c hc r hr]
  by_cases h0 : r.after = 0
  · rw [if_pos h0]
    dsimp only
    rw [hk, numL_itoa (by omega) (by omega), show (⟨r.keys, r.need, 0⟩ : TRule) = r by rw [← h0]]
    unfold chkR
    rw [if_pos ⟨hr, rfl⟩]
  · rw [if_neg h0]
    dsimp only
    rw [hk, numL_itoa (by omega) (by omega), numL_itoa (by omega) (by omega)]
    unfold chkR
    rw [if_pos ⟨hr, rfl⟩]
theorem keysD_text (xs : List Int) (hne : 1 ≤ xs.length) (h : ∀ x ∈ xs, 1 ≤ x ∧ x ≤ 999) : keysD (joinI 44 xs) = xs ∧ keysOk (joinI 44 xs) = true := by
  have hn : ∀ x ∈ xs, numD 3 (Lib.itoa x) = (x, true) := fun x hx => by have := h x hx; exact numD_itoa (by omega) (by omega) (by omega)
  unfold keysD keysOk
  rw [cut_joinI xs hne fun x hx => by have := h x hx; omega]
  refine ⟨?_, ?_⟩
  · rw [List.map_map]
    conv => rhs; rw [← List.map_id xs]
    exact List.map_congr_left fun x hx => by
      show (numD 3 (Lib.itoa x)).1 = x
      rw [hn x hx]
  · rw [List.all_eq_true]
    intro w hw
    obtain ⟨x, hx, rfl⟩ := List.mem_map.1 hw
    rw [hn x hx]
/-- A right rule's text is read back: the reference. -/
theorem parR_text (r : TRule) (hr : ruleFault r.keys r.need r.after = 0) : parR (ruleT 32 r) = (r, true) := by
  obtain ⟨h1, h2, h3, h4⟩ := rf_bounds hr
  obtain ⟨k1, k2⟩ := keysD_text r.keys (by omega) h4
  have hn := numD_itoa (n := 1) (x := r.need) (by omega) (by omega) (by omega)
  unfold parR
  rw [cut_rule 32 (.inl rfl) r hr]
  by_cases h0 : r.after = 0
  · rw [if_pos h0]
    dsimp only
    rw [if_pos rfl, k1, k2, hn]
    dsimp only
    rw [h0] at hr
    rw [hr, show (⟨r.keys, r.need, 0⟩ : TRule) = r by rw [← h0]]
    rfl
  · have ha := numD_itoa (n := 3) (x := r.after) (by omega) (by omega) (by omega)
    rw [if_neg h0]
    dsimp only
    rw [if_pos rfl, k1, k2, hn, ha]
    dsimp only
    rw [hr, decide_eq_true (by omega)]
    rfl
/-! ### transactions -/
end Go.BM
/- SignId: both sides. -/
set_option linter.unusedVariables false
set_option linter.unusedSimpArgs false
set_option maxRecDepth 100000
set_option maxHeartbeats 4000000
namespace Go.BM
open Go.Proofs Go.RowKit
attribute [local irreducible] ACalls AWp aops qops optK optP cK gateA condK mops qcallK PCalls loadV fldV idxV lenV slV storeH binS
theorem scanK_zero {α : Type} (f : List α → α → Int) (K : Int) : ∀ (xs pre : List α), scanK f K pre xs = 0 → K = 0 ∧ ∀ x ∈ xs, ∃ p, f p x = 0
  | [], pre, h => ⟨h, by simp⟩
  | x :: l, pre, h => by
    unfold scanK at h
    by_cases e : f pre x = 0
    · rw [if_pos (by simpa using e)] at h
      obtain ⟨h1, h2⟩ := scanK_zero f K l _ h
      refine ⟨h1, fun y hy => ?_⟩
      rcases List.mem_cons.1 hy with rfl | hy
      · exact ⟨pre, e⟩
      · exact h2 y hy
    · rw [if_neg (by simpa using e)] at h
      exact absurd h e
theorem sum_le (xs : List ByteArray) (h : ∀ x ∈ xs, x.size ≤ 300) : (xs.map ByteArray.size).sum ≤ 300 * xs.length := by
  induction xs with
  | nil => simp
  | cons x l ih =>
    have h1 := h x (by simp)
    have h2 := ih fun y hy => h y (by simp [hy])
    simp only [List.map_cons, List.sum_cons, List.length_cons]
    omega
theorem ledgerFault_small {l : TLedger} (h : ledgerFault l = 0) : l.texts.length ≤ 60 ∧ l.signs.length ≤ 120 ∧ nStrS l.texts ≤ 20000 := by
  unfold ledgerFault at h
  by_cases h1 : (60 : Int) < (l.texts.length : Int)
  · simp [h1] at h
  · by_cases h2 : (120 : Int) < (l.signs.length : Int)
    · simp [h2] at h
    · simp only [h1, h2, decide_false, Bool.or_self, Bool.false_eq_true, if_false] at h
      have h3 := (scanK_zero _ _ _ _ h).2
      have h4 := sum_le l.texts fun x hx => by
        obtain ⟨p, hp⟩ := h3 x hx
        unfold txF at hp
        cases ht : textB x with
        | false => simp [ht] at hp
        | true =>
          unfold textB inB at ht
          simp at ht
          omega
      refine ⟨by omega, by omega, ?_⟩
      unfold nStrS
      omega
def signIdF (l : TLedger) (key id : Int) : TLedgerResult :=
  if ledgerFault l == 0 then (if !inB key 1 999 || !inB id 1 l.texts.length then ⟨3, 0, ⟨[], []⟩⟩ else if sgIn l.signs key id then ⟨0, id, l⟩ else if decide (120 ≤ l.signs.length) then ⟨2, 0, ⟨[], []⟩⟩ else ⟨0, id, ⟨l.texts, l.signs ++ [⟨key, id⟩]⟩⟩) else ⟨ledgerFault l, 0, ⟨[], []⟩⟩
theorem impl_ownLedger_own (b0 b1 : Blk) (l : TLedger) (h1 : l.texts.length ≤ 1048576) (h2 : l.signs.length ≤ 1048576) : ACalls Tryz.prog 2 39 [ledgerE.val l] [b0, b1] fun d H' => ∃ v1 o1 v2 o2 c0 c1, (l.texts.length ≠ 0 → o1 = true) ∧ (l.signs.length ≠ 0 → o2 = true) ∧ d = .agg #[.slice (some ⟨4, 0, none⟩) l.texts.length v1, .slice (some ⟨5, 0, none⟩) l.signs.length v2] ∧ H' = [b0, b1, c0, c1, sb 9 strE l.texts v1 o1, sb 72 signE l.signs v2 o2] := by
  refine ACalls.enter (n := 10) (rs := [.cell 2 27]) Tryz.func39 rfl rfl rfl (by kernel_rfl) (by kernel_rfl) (by kernel_rfl) (Nat.le_of_ble_eq_true rfl) ?_
  repeat' (first | (refine AWp.mixed (id := 1) [(0, 0), (1, 0), (3, 0), (4, 0), (2, 1), (5, 1), (6, 0), (7, 2)] (by kernel_rfl) (by kernel_rfl) ?_) | (refine ACalls.start ?_; first | (refine ACalls.get (lib_Clone_str_own _ l.texts (by omega)) (by first | exact Nat.le_refl _ | exact Nat.zero_le _ | (simp only [List.length_append, List.length_cons, List.length_nil]; omega) | (simp only [List.length_set]; omega) | omega) (by first | exact Nat.le_refl _ | exact Nat.zero_le _ | (simp only [List.length_append, List.length_cons, List.length_nil]; omega) | (simp only [List.length_set]; omega) | omega) ?_; rintro _ _ ⟨v1, o1, ho1, rfl, rfl⟩) | (refine ACalls.get (lib_Clone_Sign_own _ l.signs (by omega)) (by first | exact Nat.le_refl _ | exact Nat.zero_le _ | (simp only [List.length_append, List.length_cons, List.length_nil]; omega) | (simp only [List.length_set]; omega) | omega) (by first | exact Nat.le_refl _ | exact Nat.zero_le _ | (simp only [List.length_append, List.length_cons, List.length_nil]; omega) | (simp only [List.length_set]; omega) | omega) ?_; rintro _ _ ⟨v2, o2, ho2, rfl, rfl⟩)) | (refine KV.run _ ?_) | (refine KT.run _ ?_) | (refine AWp.seqH fun KC => ?_) | (refine AWp.region ?_) | (refine mops_step0 rfl rfl fun KC => ?_) | (refine mops_step1 rfl fun KC => ?_) | (refine mops_step2 rfl fun KC => ?_) | (refine AWp.ret ?_) | (refine aops_callH rfl fun kC => ?_) | (simp only [bse, wk, tys, storeH_ptr, Nat.reduceEqDiff, ↓reduceIte, reduceCtorEq, Nat.reduceAdd, Nat.reduceLeDiff, Int.reduceBEq, Int.reduceLT, Int.reduceLE, Int.reduceEq, ne_eq, not_false_eq_true, Nat.reduceMul, signE_val, signE_sz, strE_sz, ledgerE_val, ledgerE_sz, ledgerResultE_val, sb_eq, *]))
  exact ⟨_, _, _, _, _, _, ho1, ho2, rfl, rfl⟩
theorem impl_SignId (l : TLedger) (key id : Int) (h : nLedger l ≤ 1048576) : NCalls Tryz.prog 15 [ledgerE.val l, .int .i64 key, .int .i64 id] (ledgerResultE.val (signIdF l key id)) := by
  have h1 := nLedger_texts h
  have h2 := nLedger_signs h
  unfold signIdF
  cases hf : (ledgerFault l == 0) with
  | false =>
    simp only [Bool.false_eq_true, if_false]
    refine NCalls.of ?_; refine ACalls.enter (n := 53) (rs := [.cell 6 44]) Tryz.func15 rfl rfl rfl (by kernel_rfl) (by kernel_rfl) (by kernel_rfl) (Nat.le_of_ble_eq_true rfl) ?_
    repeat' (first | (refine ACalls.start ?_; first | (refine ACalls.ofJi (impl_LedgerFault l h1 h2) rfl ?_)) | (refine KV.run _ ?_) | (refine KT.run _ ?_) | (refine AWp.seqH fun KC => ?_) | (refine AWp.region ?_) | (refine AWp.ret ?_) | (refine aops_callH rfl fun kC => ?_) | (refine AWp.condB ?_) | (simp only [bse, wk, tys, storeH_ptr, Nat.reduceEqDiff, ↓reduceIte, reduceCtorEq, Nat.reduceAdd, Nat.reduceLeDiff, Int.reduceBEq, Int.reduceLT, Int.reduceLE, Int.reduceEq, ne_eq, not_false_eq_true, Nat.reduceMul, signE_val, signE_sz, strE_sz, ledgerE_val, ledgerE_sz, ledgerResultE_val, sb_eq, *]))
    exact ⟨[], by simp, OwnL.aggL (.flat rfl (.flat rfl (.nils (.nils .nil))))⟩
  | true =>
    obtain ⟨_, hs120, _⟩ := ledgerFault_small (eq_of_beq hf)
    simp only [if_true]
    cases hk : inB key 1 999 <;> cases hi : inB id 1 l.texts.length <;> simp only [Bool.not_true, Bool.not_false, Bool.true_or, Bool.or_true, Bool.or_false, Bool.false_or, Bool.false_eq_true, if_true, if_false]
    iterate 3
      · refine NCalls.of ?_; refine ACalls.enter (n := 53) (rs := [.cell 6 44]) Tryz.func15 rfl rfl rfl (by kernel_rfl) (by kernel_rfl) (by kernel_rfl) (Nat.le_of_ble_eq_true rfl) ?_
        repeat' (first | (refine ACalls.start ?_; first | (refine ACalls.ofJi (impl_LedgerFault l h1 h2) rfl ?_) | (refine ACalls.get (impl_ownLedger_own _ _ l h1 h2) (by first | exact Nat.le_refl _ | exact Nat.zero_le _ | (simp only [List.length_append, List.length_cons, List.length_nil]; omega) | (simp only [List.length_set]; omega) | omega) (by first | exact Nat.le_refl _ | exact Nat.zero_le _ | (simp only [List.length_append, List.length_cons, List.length_nil]; omega) | (simp only [List.length_set]; omega) | omega) ?_; rintro _ _ ⟨v1, o1, v2, o2, c0, c1, ho1, ho2, rfl, rfl⟩) | (refine ACalls.ofJi (impl_isKey _) rfl ?_) | (refine ACalls.ofJi (impl_isInL l _) rfl ?_)) | (refine KV.run _ ?_) | (refine KT.run _ ?_) | (refine AWp.seqH fun KC => ?_) | (refine AWp.block ?_) | (refine AWp.region ?_) | (refine AWp.ret ?_) | (refine AWp.skip ?_) | (refine aops_callH rfl fun kC => ?_) | (refine AWp.condB ?_) | (simp only [bse, wk, tys, storeH_ptr, Nat.reduceEqDiff, ↓reduceIte, reduceCtorEq, Nat.reduceAdd, Nat.reduceLeDiff, Int.reduceBEq, Int.reduceLT, Int.reduceLE, Int.reduceEq, ne_eq, not_false_eq_true, Nat.reduceMul, signE_val, signE_sz, strE_sz, ledgerE_val, ledgerE_sz, ledgerResultE_val, sb_eq, *]))
        exact ⟨[], by simp, OwnL.aggL (.flat rfl (.flat rfl (.nils (.nils .nil))))⟩
    cases hg : sgIn l.signs key id with
    | true =>
      have hgs := impl_hasSign l key id h2
      rw [hg] at hgs
      simp only [if_true]
      refine NCalls.of ?_; refine ACalls.enter (n := 53) (rs := [.cell 6 44]) Tryz.func15 rfl rfl rfl (by kernel_rfl) (by kernel_rfl) (by kernel_rfl) (Nat.le_of_ble_eq_true rfl) ?_
      repeat' (first | (refine ACalls.start ?_; first | (refine ACalls.ofJi (impl_LedgerFault l h1 h2) rfl ?_) | (refine ACalls.get (impl_ownLedger_own _ _ l h1 h2) (by first | exact Nat.le_refl _ | exact Nat.zero_le _ | (simp only [List.length_append, List.length_cons, List.length_nil]; omega) | (simp only [List.length_set]; omega) | omega) (by first | exact Nat.le_refl _ | exact Nat.zero_le _ | (simp only [List.length_append, List.length_cons, List.length_nil]; omega) | (simp only [List.length_set]; omega) | omega) ?_; rintro _ _ ⟨v1, o1, v2, o2, c0, c1, ho1, ho2, rfl, rfl⟩) | (refine ACalls.ofJi (impl_isKey _) rfl ?_) | (refine ACalls.ofJi (impl_isInL l _) rfl ?_) | (refine ACalls.ofJi (hgs) rfl ?_)) | (refine KV.run _ ?_) | (refine KT.run _ ?_) | (refine AWp.seqH fun KC => ?_) | (refine AWp.block ?_) | (refine AWp.region ?_) | (refine AWp.ret ?_) | (refine AWp.skip ?_) | (refine aops_callH rfl fun kC => ?_) | (refine AWp.condB ?_) | (simp only [bse, wk, tys, storeH_ptr, Nat.reduceEqDiff, ↓reduceIte, reduceCtorEq, Nat.reduceAdd, Nat.reduceLeDiff, Int.reduceBEq, Int.reduceLT, Int.reduceLE, Int.reduceEq, ne_eq, not_false_eq_true, Nat.reduceMul, signE_val, signE_sz, strE_sz, ledgerE_val, ledgerE_sz, ledgerResultE_val, sb_eq, *]))
      exact ⟨[4, 5], by simp, OwnL.aggL (.flat rfl (.flat rfl (OwnL.append (OwnL.sbO rfl ho1 rfl (strE_flat _)) (OwnL.append (OwnL.sbO rfl ho2 rfl (signE_flat _)) .nil))))⟩
    | false =>
      have hgs := impl_hasSign l key id h2
      rw [hg] at hgs
      simp only [Bool.false_eq_true, if_false]
      by_cases h6 : 120 ≤ l.signs.length
      · have e6 : ((l.signs.length : Int) == 120) = true := by simp; omega
        simp only [h6, decide_true, if_true]
        refine NCalls.of ?_; refine ACalls.enter (n := 53) (rs := [.cell 6 44]) Tryz.func15 rfl rfl rfl (by kernel_rfl) (by kernel_rfl) (by kernel_rfl) (Nat.le_of_ble_eq_true rfl) ?_
        repeat' (first | (refine ACalls.start ?_; first | (refine ACalls.ofJi (impl_LedgerFault l h1 h2) rfl ?_) | (refine ACalls.get (impl_ownLedger_own _ _ l h1 h2) (by first | exact Nat.le_refl _ | exact Nat.zero_le _ | (simp only [List.length_append, List.length_cons, List.length_nil]; omega) | (simp only [List.length_set]; omega) | omega) (by first | exact Nat.le_refl _ | exact Nat.zero_le _ | (simp only [List.length_append, List.length_cons, List.length_nil]; omega) | (simp only [List.length_set]; omega) | omega) ?_; rintro _ _ ⟨v1, o1, v2, o2, c0, c1, ho1, ho2, rfl, rfl⟩) | (refine ACalls.ofJi (impl_isKey _) rfl ?_) | (refine ACalls.ofJi (impl_isInL l _) rfl ?_) | (refine ACalls.ofJi (hgs) rfl ?_)) | (refine KV.run _ ?_) | (refine KT.run _ ?_) | (refine AWp.seqH fun KC => ?_) | (refine AWp.block ?_) | (refine AWp.region ?_) | (refine AWp.ret ?_) | (refine AWp.skip ?_) | (refine aops_callH rfl fun kC => ?_) | (refine AWp.condB ?_) | (simp only [bse, wk, tys, storeH_ptr, Nat.reduceEqDiff, ↓reduceIte, reduceCtorEq, Nat.reduceAdd, Nat.reduceLeDiff, Int.reduceBEq, Int.reduceLT, Int.reduceLE, Int.reduceEq, ne_eq, not_false_eq_true, Nat.reduceMul, signE_val, signE_sz, strE_sz, ledgerE_val, ledgerE_sz, ledgerResultE_val, sb_eq, *]))
        exact ⟨[], by simp, OwnL.aggL (.flat rfl (.flat rfl (.nils (.nils .nil))))⟩
      · have e6 : ((l.signs.length : Int) == 120) = false := by simp; omega
        simp only [h6, decide_false, Bool.false_eq_true, if_false]
        have hap := fun (b0 b1 b2 b3 b4 b6 : Blk) (v2 : Nat) (o2 : Bool) => appendH_sb (P := Tryz.prog) (B := 0) (H := [b0, b1, b2, b3, b4, sb 72 signE l.signs v2 o2, b6, sb 72 signE [⟨key, id⟩] 0 true]) (E := signE) (xs := l.signs) (ys := [⟨key, id⟩]) (r := 5) (x := .slice (some ⟨7, 0, none⟩) 1 0) (t := 25) (tx := 25) (o := o2) (ver := v2) elZ25 zOk25 rfl (Nat.zero_le _)
          (srcV_own elZ25 rfl rfl rfl rfl (Nat.le_refl _)) (by simp; omega) (by simp; omega)
        simp only [sb_eq, signE_sz, signE.flat_one, signE_val, cells_agg, List.length_cons, List.length_nil, Nat.zero_add, List.set_cons_succ, List.set_cons_zero, ne_eq, Nat.succ_ne_self, not_false_eq_true, decide_true, Bool.or_true, Nat.one_ne_zero] at hap
        refine NCalls.of ?_; refine ACalls.enter (n := 53) (rs := [.cell 6 44]) Tryz.func15 rfl rfl rfl (by kernel_rfl) (by kernel_rfl) (by kernel_rfl) (Nat.le_of_ble_eq_true rfl) ?_
        repeat' (first | (refine ACalls.start ?_; first | (refine ACalls.ofJi (impl_LedgerFault l h1 h2) rfl ?_) | (refine ACalls.get (impl_ownLedger_own _ _ l h1 h2) (by first | exact Nat.le_refl _ | exact Nat.zero_le _ | (simp only [List.length_append, List.length_cons, List.length_nil]; omega) | (simp only [List.length_set]; omega) | omega) (by first | exact Nat.le_refl _ | exact Nat.zero_le _ | (simp only [List.length_append, List.length_cons, List.length_nil]; omega) | (simp only [List.length_set]; omega) | omega) ?_; rintro _ _ ⟨v1, o1, v2, o2, c0, c1, ho1, ho2, rfl, rfl⟩) | (refine ACalls.ofJi (impl_isKey _) rfl ?_) | (refine ACalls.ofJi (impl_isInL l _) rfl ?_) | (refine ACalls.ofJi (hgs) rfl ?_)) | (refine KV.run _ ?_) | (refine KT.run _ ?_) | (refine AWp.seqH fun KC => ?_) | (refine AWp.block ?_) | (refine AWp.region ?_) | (refine AWp.ret ?_) | (refine AWp.skip ?_) | (refine aops_callH rfl fun kC => ?_) | (refine AWp.condB ?_) | (simp only [bse, wk, tys, storeH_ptr, Nat.reduceEqDiff, ↓reduceIte, reduceCtorEq, Nat.reduceAdd, Nat.reduceLeDiff, Int.reduceBEq, Int.reduceLT, Int.reduceLE, Int.reduceEq, ne_eq, not_false_eq_true, Nat.reduceMul, signE_val, signE_sz, strE_sz, ledgerE_val, ledgerE_sz, ledgerResultE_val, sb_eq, *]))
        exact ⟨[4, 5], by simp, OwnL.aggL (.flat rfl (.flat rfl (OwnL.append (OwnL.sbO rfl ho1 rfl (strE_flat _)) (OwnL.append (OwnL.slE (ys := l.signs ++ [⟨key, id⟩]) rfl (fun _ => rfl) (by simp) (signE_flat _)) .nil))))⟩
theorem spec_l1Copy_own (b0 b1 : Blk) (l : TLedger) (h1 : l.texts.length ≤ 1048576) (h2 : l.signs.length ≤ 1048576) : ACalls Tryz.prog 2 73 [ledgerE.val l] [b0, b1] fun d H' => ∃ c0 c1, (d = .agg #[.slice (some ⟨4, 0, none⟩) l.texts.length 1, .slice (some ⟨5, 0, none⟩) l.signs.length 1] ∧ H' = [b0, b1, c0, c1, sb 9 strE l.texts 1 true, sb 72 signE l.signs 1 true]) ∨ (d = .agg #[.slice (some ⟨5, 0, none⟩) l.texts.length 1, .slice (some ⟨4, 0, none⟩) l.signs.length 1] ∧ H' = [b0, b1, c0, c1, sb 72 signE l.signs 1 true, sb 9 strE l.texts 1 true]) := by
  have apA := fun (c0 c1 : Blk) => appendH_sb (P := Tryz.prog) (B := 2) (H := [b0, b1, c0, c1, sb 9 strE [] 0 true]) (E := strE) (xs := []) (ys := l.texts) (r := 4) (x := islE strE l.texts) (t := 24) (tx := 24) (o := true) (ver := 0) elZ24 zOk24 rfl (by decide) (srcV_isl' elZ24) (by simp; omega) (by simp; omega)
  have apB := fun (c0 c1 g : Blk) => appendH_sb (P := Tryz.prog) (B := 2) (H := [b0, b1, c0, c1, sb 9 strE [] 0 true, g]) (E := strE) (xs := []) (ys := l.texts) (r := 4) (x := islE strE l.texts) (t := 24) (tx := 24) (o := true) (ver := 0) elZ24 zOk24 rfl (by decide) (srcV_isl' elZ24) (by simp; omega) (by simp; omega)
  have apC := fun (c0 c1 g : Blk) => appendH_sb (P := Tryz.prog) (B := 2) (H := [b0, b1, c0, c1, g, sb 9 strE [] 0 true]) (E := strE) (xs := []) (ys := l.texts) (r := 5) (x := islE strE l.texts) (t := 24) (tx := 24) (o := true) (ver := 0) elZ24 zOk24 rfl (by decide) (srcV_isl' elZ24) (by simp; omega) (by simp; omega)
  have apD := fun (c0 c1 g : Blk) => appendH_sb (P := Tryz.prog) (B := 2) (H := [b0, b1, c0, c1, g, sb 72 signE [] 0 true]) (E := signE) (xs := []) (ys := l.signs) (r := 5) (x := islE signE l.signs) (t := 25) (tx := 25) (o := true) (ver := 0) elZ25 zOk25 rfl (by decide) (srcV_isl' elZ25) (by simp; omega) (by simp; omega)
  have apE := fun (c0 c1 g : Blk) => appendH_sb (P := Tryz.prog) (B := 2) (H := [b0, b1, c0, c1, sb 72 signE [] 0 true, g]) (E := signE) (xs := []) (ys := l.signs) (r := 4) (x := islE signE l.signs) (t := 25) (tx := 25) (o := true) (ver := 0) elZ25 zOk25 rfl (by decide) (srcV_isl' elZ25) (by simp; omega) (by simp; omega)
  simp only [sb_eq, signE_sz, signE.flat_nil, strE_sz, strE.flat_nil, List.nil_append, List.length_cons, List.length_nil, Nat.zero_add, List.set_cons_succ, List.set_cons_zero, Bool.true_or, Nat.reduceAdd] at apA apB apC apD apE
  refine ACalls.enter (n := 12) (rs := [.cell 2 27]) Tryz.func73 rfl rfl rfl (by kernel_rfl) (by kernel_rfl) (by kernel_rfl) (Nat.le_of_ble_eq_true rfl) ?_
  repeat' (first | (refine AWp.mixedT (id := 1) (.cons 1 0 (.cons 2 0 (.alt 0 1 (.alt 3 2 (.cons 5 0 (.cons 6 0 (.cons 4 1 (.cons 7 2 (.cons 8 0 (.cons 9 2 .nil)))))) (.alt 4 1 (.alt 3 2 (.cons 5 0 (.cons 6 0 (.cons 7 2 (.cons 8 0 (.cons 9 2 .nil))))) (.cons 5 1 (.alt 3 2 (.cons 6 0 (.cons 7 2 (.cons 8 0 (.cons 9 2 .nil)))) (.cons 6 1 (.cons 3 2 (.cons 7 2 (.cons 8 0 (.cons 9 2 .nil)))))))) (.cons 5 1 (.alt 3 2 (.cons 6 0 (.cons 4 1 (.cons 7 2 (.cons 8 0 (.cons 9 2 .nil))))) (.alt 4 1 (.alt 3 2 (.cons 6 0 (.cons 7 2 (.cons 8 0 (.cons 9 2 .nil)))) (.cons 6 1 (.cons 3 2 (.cons 7 2 (.cons 8 0 (.cons 9 2 .nil)))))) (.cons 6 1 (.alt 3 2 (.cons 4 1 (.cons 7 2 (.cons 8 0 (.cons 9 2 .nil)))) (.cons 4 1 (.cons 3 2 (.cons 7 2 (.cons 8 0 (.cons 9 2 .nil)))))))))))) (.alt 4 1 (.alt 0 1 (.alt 3 2 (.cons 5 0 (.cons 6 0 (.cons 7 2 (.cons 8 0 (.cons 9 2 .nil))))) (.cons 5 1 (.alt 3 2 (.cons 6 0 (.cons 7 2 (.cons 8 0 (.cons 9 2 .nil)))) (.cons 6 1 (.cons 3 2 (.cons 7 2 (.cons 8 0 (.cons 9 2 .nil)))))))) (.cons 5 1 (.alt 0 1 (.alt 3 2 (.cons 6 0 (.cons 7 2 (.cons 8 0 (.cons 9 2 .nil)))) (.cons 6 1 (.cons 3 2 (.cons 7 2 (.cons 8 0 (.cons 9 2 .nil)))))) (.cons 6 1 (.cons 0 1 (.cons 3 2 (.cons 7 2 (.cons 8 0 (.cons 9 2 .nil))))))))) (.cons 5 1 (.alt 0 1 (.alt 3 2 (.cons 6 0 (.cons 4 1 (.cons 7 2 (.cons 8 0 (.cons 9 2 .nil))))) (.alt 4 1 (.alt 3 2 (.cons 6 0 (.cons 7 2 (.cons 8 0 (.cons 9 2 .nil)))) (.cons 6 1 (.cons 3 2 (.cons 7 2 (.cons 8 0 (.cons 9 2 .nil)))))) (.cons 6 1 (.alt 3 2 (.cons 4 1 (.cons 7 2 (.cons 8 0 (.cons 9 2 .nil)))) (.cons 4 1 (.cons 3 2 (.cons 7 2 (.cons 8 0 (.cons 9 2 .nil))))))))) (.alt 4 1 (.alt 0 1 (.alt 3 2 (.cons 6 0 (.cons 7 2 (.cons 8 0 (.cons 9 2 .nil)))) (.cons 6 1 (.cons 3 2 (.cons 7 2 (.cons 8 0 (.cons 9 2 .nil)))))) (.cons 6 1 (.cons 0 1 (.cons 3 2 (.cons 7 2 (.cons 8 0 (.cons 9 2 .nil))))))) (.cons 6 1 (.alt 0 1 (.alt 3 2 (.cons 4 1 (.cons 7 2 (.cons 8 0 (.cons 9 2 .nil)))) (.cons 4 1 (.cons 3 2 (.cons 7 2 (.cons 8 0 (.cons 9 2 .nil)))))) (.cons 4 1 (.cons 0 1 (.cons 3 2 (.cons 7 2 (.cons 8 0 (.cons 9 2 .nil))))))))))))))) (by kernel_rfl) (by kernel_rfl) ?_) | (refine mopsT_step0 rfl rfl fun KC => ?_) | (refine mopsT_step1 rfl fun KC => ?_) | (refine mopsT_step2 rfl fun KC => ?_) | (refine mopsT_alt1 rfl (fun KC => ?_) ?_) | (refine mopsT_alt2 rfl (fun KC => ?_) ?_) | (refine KT.run _ ?_) | (refine AWp.seqH fun KC => ?_) | (refine AWp.region ?_) | (refine AWp.ret ?_) | (simp only [bse, wk, tys, storeH_ptr, Nat.reduceEqDiff, ↓reduceIte, reduceCtorEq, Nat.reduceAdd, Nat.reduceLeDiff, Int.reduceBEq, Int.reduceLT, Int.reduceLE, Int.reduceEq, ne_eq, not_false_eq_true, Nat.reduceMul, signE_val, signE_sz, strE_sz, ledgerE_val, ledgerE_sz, ledgerResultE_val, sb_eq, *]))
  all_goals (first | exact ⟨_, _, rfl⟩ | exact ⟨_, _, .inl ⟨rfl, rfl⟩⟩ | exact ⟨_, _, .inr ⟨rfl, rfl⟩⟩ | exact ⟨_, _, .inl rfl⟩ | exact ⟨_, _, .inr rfl⟩)
end Go.BM
/- Draws: the source, single draws. -/
set_option linter.unusedVariables false
set_option linter.unusedSimpArgs false
set_option maxRecDepth 100000
set_option maxHeartbeats 4000000
namespace Go.BM
open Go.Proofs Go.RowKit
attribute [local irreducible] ACalls AWp aops qops optK optP cK gateA condK mops qcallK PCalls loadV fldV idxV lenV slV storeH binS
theorem spec_l1Next (n : Int) (hn : n ≤ 4611686018427387904) : DCalls Tryz.prog 74 1 19 [.int .i64 n] (fun v => ∃ k : Int, v = .int .i64 k ∧ 0 ≤ k ∧ (1 ≤ n → k < n)) := by
  intro code a hcl h0 h1
  obtain ⟨m, rfl⟩ : ∃ m : Nat, a = m := ⟨a.toNat, by omega⟩
  have hm : m ≤ 1000000 := by omega
  have e1 : IntKind.i64.wrap ((m : Int) + 1) = ((m + 1 : Nat) : Int) := wr_succ (by omega)
  have e2 : IntKind.i64.wrap (((m + 1 : Nat) : Int) - 1) = (m : Int) := by rw [wr] <;> omega
  have pos : ∀ v : Nat, 1 ≤ n → 0 ≤ (v : Int).tmod n ∧ (1 ≤ n → (v : Int).tmod n < n) := fun v h => ⟨Int.tmod_nonneg _ (by omega), fun _ => Int.tmod_lt_of_pos _ (by omega)⟩
  unfold ptr0
  by_cases hn1 : n < 1
  · refine ACalls.enter (n := 71) (rs := [.tmp 4]) Tryz.func19 rfl rfl rfl (by kernel_rfl) (by kernel_rfl) (by kernel_rfl) (Nat.le_of_ble_eq_true rfl) ?_
    repeat' (first | (refine KT.run _ ?_) | (refine AWp.seqH fun KC => ?_) | (refine AWp.region ?_) | (refine AWp.ret ?_) | (refine AWp.condB ?_) | (simp only [bse, wk, tys, storeH_ptr, Nat.reduceEqDiff, ↓reduceIte, reduceCtorEq, Nat.reduceAdd, Nat.reduceLeDiff, Int.reduceBEq, Int.reduceLT, Int.reduceLE, Int.reduceEq, ne_eq, not_false_eq_true, Nat.reduceMul, srcB_eq, Int.reduceToNat, Int.cast_ofNat_Int, *]))
    exact DOut.flat ((m + 1 : Nat) : Int) rfl rfl ⟨0, rfl, by omega, by omega⟩ (by omega) (by omega)
  · have hn0 : n ≠ 0 := by omega
    by_cases hz : code.length = 0
    · have hb0 : ((code.length : Int) == 0) = true := by simp [hz]
      have e3 : IntKind.i64.wrap ((m : Int) * 7) = ((m * 7 : Nat) : Int) := by rw [wr] <;> omega
      clear hz
      refine ACalls.enter (n := 71) (rs := [.tmp 4]) Tryz.func19 rfl rfl rfl (by kernel_rfl) (by kernel_rfl) (by kernel_rfl) (Nat.le_of_ble_eq_true rfl) ?_
      repeat' (first | (refine KT.run _ ?_) | (refine AWp.seqH fun KC => ?_) | (refine AWp.region ?_) | (refine AWp.ret ?_) | (refine AWp.skip ?_) | (refine AWp.condB ?_) | (simp only [bse, wk, tys, storeH_ptr, Nat.reduceEqDiff, ↓reduceIte, reduceCtorEq, Nat.reduceAdd, Nat.reduceLeDiff, Int.reduceBEq, Int.reduceLT, Int.reduceLE, Int.reduceEq, ne_eq, not_false_eq_true, Nat.reduceMul, srcB_eq, Int.reduceToNat, Int.cast_ofNat_Int, *]))
      exact DOut.flat ((m + 1 : Nat) : Int) rfl rfl ⟨_, rfl, pos _ (by omega)⟩ (by omega) (by omega)
    · have hb0 : ((code.length : Int) == 0) = false := by rw [beq_eq_false_iff_ne]; omega
      have hk0 : (code.length : Int) ≠ 0 := by omega
      have l1 : m % code.length < code.length := Nat.mod_lt _ (by omega)
      have l2 : (m + 1) % code.length < code.length := Nat.mod_lt _ (by omega)
      have t1 := tmod_nat m code.length
      have t2 := tmod_nat (m + 1) code.length
      have t3 := tdiv_nat m code.length
      have q1 : m / code.length ≤ 1000000 := Nat.le_trans (Nat.div_le_self _ _) hm
      generalize m / code.length = d at t3 q1
      have t4 := wr_nat (m := d) (by omega)
      have t5 : IntKind.i64.wrap ((d : Int) * 37) = ((d * 37 : Nat) : Int) := by rw [wr] <;> omega
      have u1 := wr_byte code[m % code.length]
      have u2 := wr_byte code[(m + 1) % code.length]
      have b1 := (code[m % code.length]).toNat_lt
      have b2 := (code[(m + 1) % code.length]).toNat_lt
      generalize hx1 : (code[m % code.length]).toNat = x1 at u1 b1
      generalize hx2 : (code[(m + 1) % code.length]).toNat = x2 at u2 b2
      have s1 : IntKind.i64.wrap ((x1 : Int) + ((d * 37 : Nat) : Int)) = ((x1 + d * 37 : Nat) : Int) := by rw [wr] <;> omega
      have s2 : IntKind.i64.wrap (((x1 + d * 37 : Nat) : Int) * 251) = (((x1 + d * 37) * 251 : Nat) : Int) := by rw [wr] <;> omega
      have s3 : IntKind.i64.wrap ((x2 : Int) * 13) = ((x2 * 13 : Nat) : Int) := by rw [wr] <;> omega
      have s4 : IntKind.i64.wrap ((((x1 + d * 37) * 251 : Nat) : Int) + ((x2 * 13 : Nat) : Int)) = (((x1 + d * 37) * 251 + x2 * 13 : Nat) : Int) := by rw [wr] <;> omega
      have s5 : IntKind.i64.wrap ((((x1 + d * 37) * 251 + x2 * 13 : Nat) : Int) + (m : Int)) = (((x1 + d * 37) * 251 + x2 * 13 + m : Nat) : Int) := by rw [wr] <;> omega
      by_cases h200 : 200 < n
      all_goals
        refine ACalls.enter (n := 71) (rs := [.tmp 4]) Tryz.func19 rfl rfl rfl (by kernel_rfl) (by kernel_rfl) (by kernel_rfl) (Nat.le_of_ble_eq_true rfl) ?_
        repeat' (first | (refine AWp.quiet (id := 8) (by kernel_rfl) (by kernel_rfl) ?_) | (refine AWp.quiet (id := 10) (by kernel_rfl) (by kernel_rfl) ?_) | (refine KT.run _ ?_) | (refine AWp.seqH fun KC => ?_) | (refine AWp.region ?_) | (refine AWp.ret ?_) | (refine AWp.skip ?_) | (refine AWp.condB ?_) | (simp only [bse, wk, tys, storeH_ptr, Nat.reduceEqDiff, ↓reduceIte, reduceCtorEq, Nat.reduceAdd, Nat.reduceLeDiff, Int.reduceBEq, Int.reduceLT, Int.reduceLE, Int.reduceEq, ne_eq, not_false_eq_true, Nat.reduceMul, srcB_eq, Int.reduceToNat, Int.cast_ofNat_Int, *]))
        exact DOut.flat ((m + 1 : Nat) : Int) rfl rfl ⟨_, rfl, pos _ (by omega)⟩ (by omega) (by omega)
theorem spec_l1NextN (n : Int) (hn : n ≤ 4611686018427387904) : DCalls Tryz.prog 74 1 19 [.int .i64 n] (fun v => ∃ k : Nat, v = .int .i64 (k : Int) ∧ (1 ≤ n → (k : Int) < n)) :=
  (spec_l1Next n hn).mono fun v ⟨k, e, h0, h1⟩ => ⟨k.toNat, by rw [e, Int.toNat_of_nonneg h0], by rw [Int.toNat_of_nonneg h0]; exact h1⟩
theorem spec_l1NextI (n : Nat) (h1 : 1 ≤ n) (hn : n ≤ 4611686018427387904) : DCalls Tryz.prog 74 1 19 [.int .i64 (n : Int)] (fun v => ∃ k : Nat, v = .int .i64 (k : Int) ∧ k < n) :=
  (spec_l1NextN n (by omega)).mono fun v ⟨k, e, h⟩ => ⟨k, e, by have := h (by omega); omega⟩
theorem intE_map (xs : List Int) : intE.flat xs = xs.map (Value.int .i64) := by
  induction xs with
  | nil => rfl
  | cons x l ih => rw [intE.flat_cons, ih]; rfl
theorem intE_at (xs : List Int) (j : Nat) (hj : j < xs.length) : (intE.flat xs)[j]? = some (.int .i64 xs[j]) := by
  rw [intE_map]
  simp [List.getElem?_eq_getElem hj]
theorem spec_l1Pick (xs : List Int) {B r q : Nat} {H : AH} {code : List UInt8} {a : Int} {cs : List Value} (hx : 0 < xs.length) (hl : xs.length ≤ 1000) (hr : H[r]? = some (srcB 74 code a)) (hB : B ≤ r) (hq : H[q]? = some ⟨2, 1, cs, 0, true⟩) (hcs : cs = intE.flat xs) (hne : q ≠ r)
    (hcl : code.length ≤ 1048576) (h0 : 0 ≤ a) (h1 : a + 1 ≤ 1000000) : ACalls Tryz.prog B 20 [.pointer (some ⟨r, 0, some 0⟩), .slice (some ⟨q, 0, none⟩) xs.length 0] H fun d H' => ∃ k a', d = .int .i64 k ∧ k ∈ xs ∧ a ≤ a' ∧ a' ≤ a + 1 ∧ H' = H.set r (srcB 74 code a') := by
  have hqs := fun b => get_setne hq hne b
  have hrl := lt_of_some hr
  subst hcs
  refine ACalls.enter (n := 12) (rs := [.tmp 4]) Tryz.func20 rfl rfl rfl (by kernel_rfl) (by kernel_rfl) (by kernel_rfl) (Nat.le_of_ble_eq_true rfl) ?_
  repeat' (first | (refine ACalls.start ?_; first | (refine ACalls.get (DCalls.val (B := B) (spec_l1Next xs.length (by omega)) hr hB (by repeat' (first | exact Im.nilL | refine Im.consL ?_ ?_ | refine Im.appL ?_ ?_ | exact Im.flat _ rfl | exact islE_im _ _ | exact Enc.val_im _ _ | assumption | refine Im.aggL ?_ | refine Im.funcL ?_ | refine Im.funcA ?_ | refine Im.isl ?_ | refine Im.ip ?_)) hcl (by omega) (by omega)) (by first | exact Nat.le_refl _ | exact Nat.zero_le _ | (simp only [List.length_append, List.length_cons, List.length_nil]; omega) | (simp only [List.length_set]; omega) | omega) (by first | exact Nat.le_refl _ | exact Nat.zero_le _ | (simp only [List.length_append, List.length_cons, List.length_nil]; omega) | (simp only [List.length_set]; omega) | omega) ?_; rintro _ _ ⟨a1, ⟨k, rfl, hk0, hk1⟩, _, ha1, ha2, rfl⟩)) | (refine KV.run _ ?_) | (refine KT.run _ ?_) | (refine AWp.seqH fun KC => ?_) | (refine AWp.region ?_) | (refine aops_callH rfl fun kC => ?_) | (simp only [bse, wk, tys, storeH_ptr, Nat.reduceEqDiff, ↓reduceIte, reduceCtorEq, Nat.reduceAdd, Nat.reduceLeDiff, Int.reduceBEq, Int.reduceLT, Int.reduceLE, Int.reduceEq, ne_eq, not_false_eq_true, Nat.reduceMul, srcB_eq, Int.reduceToNat, Int.cast_ofNat_Int, *]))
  obtain ⟨j, rfl⟩ : ∃ j : Nat, k = j := ⟨k.toNat, by omega⟩
  have hj : j < xs.length := by omega
  have hj0 : (0 : Int) ≤ (j : Int) := by omega
  have hj1 : (j : Int) < (xs.length : Int) := by omega
  have hat := intE_at xs j hj
  repeat' (first | (refine KT.run _ ?_) | (refine AWp.ret ?_) | (simp only [bse, wk, tys, storeH_ptr, Nat.reduceEqDiff, ↓reduceIte, reduceCtorEq, Nat.reduceAdd, Nat.reduceLeDiff, Int.reduceBEq, Int.reduceLT, Int.reduceLE, Int.reduceEq, ne_eq, not_false_eq_true, Nat.reduceMul, srcB_eq, Int.reduceToNat, Int.cast_ofNat_Int, *]))
  exact ⟨_, a1, rfl, List.getElem_mem hj, ha1, by omega, rfl⟩
/-- A pick of numbers of which nothing is asked. -/
theorem spec_l1PickA {B r q n : Nat} {H : AH} {code : List UInt8} {a : Int} {cs : List Value} (hr : H[r]? = some (srcB 74 code a)) (hB : B ≤ r) (hq : H[q]? = some ⟨2, 1, cs, 0, true⟩) (hcs : ∃ xs : List Int, 0 < xs.length ∧ xs.length ≤ 1000 ∧ n = xs.length ∧ cs = intE.flat xs) (hne : q ≠ r)
    (hcl : code.length ≤ 1048576) (h0 : 0 ≤ a) (h1 : a + 1 ≤ 1000000) : ACalls Tryz.prog B 20 [.pointer (some ⟨r, 0, some 0⟩), .slice (some ⟨q, 0, none⟩) n 0] H fun d H' => ∃ k a', d = .int .i64 k ∧ a ≤ a' ∧ a' ≤ a + 1 ∧ H' = H.set r (srcB 74 code a') := by
  obtain ⟨xs, hx, hl, rfl, hcs⟩ := hcs
  exact (spec_l1Pick xs hx hl hr hB hq hcs hne hcl h0 h1).mono fun d H' ⟨k, a', e1, _, e2, e3, e4⟩ => ⟨k, a', e1, e2, e3, e4⟩
theorem spec_l1Word : DCalls Tryz.prog 74 1 64 [] (fun v => ∃ s : ByteArray, v = .string s ∧ s.size ≤ 5 ∧ 1 ≤ s.size) := by
  intro code a hcl h0 h1
  unfold ptr0
  refine ACalls.enter (n := 8) (rs := [.tmp 2]) Tryz.func64 rfl rfl rfl (by kernel_rfl) (by kernel_rfl) (by kernel_rfl) (Nat.le_of_ble_eq_true rfl) ?_
  repeat' (first | (refine ACalls.start ?_; first | (refine ACalls.get ((spec_l1Next 5 (by omega)).val rfl (Nat.zero_le _) (by repeat' (first | exact Im.nilL | refine Im.consL ?_ ?_ | refine Im.appL ?_ ?_ | exact Im.flat _ rfl | exact islE_im _ _ | exact Enc.val_im _ _ | assumption | refine Im.aggL ?_ | refine Im.funcL ?_ | refine Im.funcA ?_ | refine Im.isl ?_ | refine Im.ip ?_)) hcl (by omega) (by omega)) (by first | exact Nat.le_refl _ | exact Nat.zero_le _ | (simp only [List.length_append, List.length_cons, List.length_nil]; omega) | (simp only [List.length_set]; omega) | omega) (by first | exact Nat.le_refl _ | exact Nat.zero_le _ | (simp only [List.length_append, List.length_cons, List.length_nil]; omega) | (simp only [List.length_set]; omega) | omega) ?_; rintro _ _ ⟨a1, ⟨k, rfl, hk0, hk1⟩, _, ha1, ha2, rfl⟩)) | (refine KV.run _ ?_) | (refine KT.run _ ?_) | (refine AWp.seqH fun KC => ?_) | (refine AWp.region ?_) | (refine aops_callH rfl fun kC => ?_) | (simp only [bse, wk, tys, storeH_ptr, Nat.reduceEqDiff, ↓reduceIte, reduceCtorEq, Nat.reduceAdd, Nat.reduceLeDiff, Int.reduceBEq, Int.reduceLT, Int.reduceLE, Int.reduceEq, ne_eq, not_false_eq_true, Nat.reduceMul, srcB_eq, Int.reduceToNat, Int.cast_ofNat_Int, *]))
  have hk : k = 0 ∨ k = 1 ∨ k = 2 ∨ k = 3 ∨ k = 4 := by omega
  rcases hk with rfl | rfl | rfl | rfl | rfl
  all_goals
    repeat' (first | (refine KT.run _ ?_) | (refine AWp.ret ?_) | (simp only [bse, wk, tys, storeH_ptr, Nat.reduceEqDiff, ↓reduceIte, reduceCtorEq, Nat.reduceAdd, Nat.reduceLeDiff, Int.reduceBEq, Int.reduceLT, Int.reduceLE, Int.reduceEq, ne_eq, not_false_eq_true, Nat.reduceMul, srcB_eq, Int.reduceToNat, Int.cast_ofNat_Int, *]))
    exact DOut.flat a1 rfl rfl ⟨_, rfl, by decide, by decide⟩ (by omega) (by omega)
theorem spec_l1Source (H : AH) (code : List UInt8) : ACalls Tryz.prog H.length 16 [islE byteE code] H fun d H' => d = .pointer (some ⟨H.length, 0, some 0⟩) ∧ H' = H ++ [srcB 74 code 0] := by
  refine ACalls.enter (n := 6) (rs := [.tmp 2]) Tryz.func16 rfl rfl rfl (by kernel_rfl) (by kernel_rfl) (by kernel_rfl) (Nat.le_of_ble_eq_true rfl) ?_
  repeat' (first | (refine KT.run _ ?_) | (refine AWp.seqH fun KC => ?_) | (refine AWp.region ?_) | (refine AWp.ret ?_) | (simp only [bse, wk, tys, storeH_ptr, Nat.reduceEqDiff, ↓reduceIte, reduceCtorEq, Nat.reduceAdd, Nat.reduceLeDiff, Int.reduceBEq, Int.reduceLT, Int.reduceLE, Int.reduceEq, ne_eq, not_false_eq_true, Nat.reduceMul, srcB_eq, Int.reduceToNat, Int.cast_ofNat_Int, *]))
  all_goals first | exact ⟨rfl, rfl⟩ | exact trivial
end Go.BM
