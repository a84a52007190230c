/- Packed: K34, K25, K26, K27, K28, K35. -/
import Derived.Test.YtboephigjgncaaaGreatDoorZ6
import Derived.Test.YtboephigjgncaaaGreatDoorZ7
import Derived.Test.YtboephigjgncaaaGreatDoorZ8
/- A rule read out of a text: the reference. -/
set_option linter.unusedVariables false
set_option linter.unusedSimpArgs false
set_option maxRecDepth 100000
set_option maxHeartbeats 4000000
namespace Go.BM
open Go.Proofs Go.RowKit
attribute [local irreducible] ACalls AWp aops qops optK optP cK gateA condK mops qcallK PCalls loadV fldV idxV lenV slV storeH binS
def keysD (w : List UInt8) : List Int := (cutL 44 w).map fun w => (numD 3 w).1
def keysOk (w : List UInt8) : Bool := (cutL 44 w).all fun w => (numD 3 w).2
/-- A rule, read as the reference reads it. -/
def parR (t : List UInt8) : TRule × Bool :=
  match cutL 32 t with
  | [w0, w1, w2] => if w1 = [111, 102] then (⟨keysD w2, (numD 1 w0).1, 0⟩, (numD 1 w0).2 && keysOk w2 && (ruleFault (keysD w2) (numD 1 w0).1 0 == 0)) else (rule0, false)
  | [w0, w1, w2, w3, w4] => if w1 = [111, 102] then (⟨keysD w2, (numD 1 w0).1, (numD 3 w4).1⟩, (numD 1 w0).2 && keysOk w2 && ((numD 3 w4).2 && (w3 == [97, 102, 116, 101, 114]) && decide (0 < (numD 3 w4).1)) && (ruleFault (keysD w2) (numD 1 w0).1 (numD 3 w4).1 == 0)) else (rule0, false)
  | _ => (rule0, false)
theorem bor_rule0 {H : AH} (b : Bool) : Bor H (.tuple #[.agg #[.slice none 0 0, .int .i64 0, .int .i64 0], .bool b]) (.tuple #[ruleE.val rule0, .bool b]) :=
  Bor.tupleL (.cons (Bor.aggL (.cons .nil (.cons (.same _ (.flat _ rfl)) (.cons (.same _ (.flat _ rfl)) .nil)))) (.cons (.same _ (.flat _ rfl)) .nil))
theorem l2Parse3 (t w0 w1 w2 : List UInt8) (hw : cutL 32 t = [w0, w1, w2]) (hof : w1 = [111, 102]) (ht : t.length ≤ 300) (R : TRule × Bool) (hR : R = (⟨keysD w2, (numD 1 w0).1, 0⟩, (numD 1 w0).2 && keysOk w2 && (ruleFault (keysD w2) (numD 1 w0).1 0 == 0))) : PCalls Tryz.prog 79 [.string (bs t)] (.tuple #[ruleE.val R.1, .bool R.2]) := by
  have hsp := spec_l2Cut t 32 32 rfl (by omega)
  have hW : cutW 32 t = [bs w0, bs w1, bs w2] := by unfold cutW; rw [hw]; rfl
  rw [hW] at hsp
  have hlt := cutL_mem 32 t
  rw [hw] at hlt
  have q3 : (((3 : Nat) : Int) == 3) = true := rfl
  have q5 : (((3 : Nat) : Int) == 5) = false := rfl
  have ix0 : ∀ H : AH, idxV Tryz.prog H 22 (islE strE [bs w0, bs w1, bs w2]) (.int .i64 0) = some (ip [.string (bs w0), .string (bs w1), .string (bs w2)]) := fun H => idxV_isl (P := Tryz.prog) (H := H) (n := 3) (k := 0) (kd := .i64) (cs := strE.flat [bs w0, bs w1, bs w2]) elZ22 (by omega)
  have ix1 : ∀ H : AH, idxV Tryz.prog H 22 (islE strE [bs w0, bs w1, bs w2]) (.int .i64 1) = some (ip [.string (bs w1), .string (bs w2)]) := fun H => idxV_isl (P := Tryz.prog) (H := H) (n := 3) (k := 1) (kd := .i64) (cs := strE.flat [bs w0, bs w1, bs w2]) elZ22 (by omega)
  have ix2 : ∀ H : AH, idxV Tryz.prog H 22 (islE strE [bs w0, bs w1, bs w2]) (.int .i64 2) = some (ip [.string (bs w2)]) := fun H => idxV_isl (P := Tryz.prog) (H := H) (n := 3) (k := 2) (kd := .i64) (cs := strE.flat [bs w0, bs w1, bs w2]) elZ22 (by omega)
  have ld := ld_str
  have hof' : (bs w1 == ⟨#[111, 102]⟩) = true := by rw [show (bs w1 == ⟨#[111, 102]⟩) = (w1 == [111, 102]) from bs_beq w1 [111, 102]]; simpa using hof
  have m0 : PCalls Tryz.prog 68 [.string (bs w0), .int .i64 1] (.tuple #[.int .i64 (numD 1 w0).1, .bool (numD 1 w0).2]) := spec_l2Number w0 1 (by omega) (by have := hlt w0 (by simp); omega)
  have hsc := spec_l2Cut w2 44 44 rfl (by have := hlt w2 (by simp); omega)
  have hwl : ∀ w ∈ cutL 44 w2, w.length ≤ 300 := fun w hw => by have := cutL_mem 44 w2 w hw; have := hlt w2 (by simp); omega
  have hln : (cutL 44 w2).length ≤ 301 := by have := cutL_len 44 w2; have := hlt w2 (by simp); omega
  have hcw : cutW 44 w2 = (cutL 44 w2).map bs := rfl
  rw [hcw] at hsc
  clear hW hlt hw ht hcw hof
  unfold keysD keysOk at hR
  generalize cutL 44 w2 = lw at hsc hwl hln hR
  have hml : (lw.map bs).length = lw.length := List.length_map ..
  have hnum : ∀ (k : Nat) (hk : k < lw.length), PCalls Tryz.prog 68 [.string (bs lw[k]), .int .i64 3] (.tuple #[.int .i64 (numD 3 lw[k]).1, .bool (numD 3 lw[k]).2]) := fun k hk => spec_l2Number lw[k] 3 (by omega) (by have := hwl _ (List.getElem_mem hk); omega)
  generalize numD 1 w0 = r0 at m0 hR
  obtain ⟨x0, o0⟩ := r0
  dsimp only at m0 hR
  have hfl := spec_l2Fault (lw.map fun w => (numD 3 w).1) x0 0 (by rw [List.length_map]; omega)
  obtain ⟨F, hFe⟩ : ∃ F, F = ruleFault (lw.map fun w => (numD 3 w).1) x0 0 := ⟨_, rfl⟩
  rw [← hFe] at hfl hR
  have hRH : Hid _ := hR
  clear hFe hwl hR
  refine PCalls.of ?_; refine ACalls.enter (n := 100) (rs := [.cell 2 115, .tmp 3]) Tryz.func79 rfl rfl rfl (by kernel_rfl) (by kernel_rfl) (by kernel_rfl) (Nat.le_of_ble_eq_true rfl) ?_
  repeat' (first | (refine ACalls.start ?_; first | (refine ACalls.ofJi (hsp) rfl ?_) | (refine ACalls.ofJi (m0) rfl ?_) | (refine ACalls.ofJi (hsc) rfl ?_)) | (refine KV.run _ ?_) | (refine KT.run _ ?_) | (refine AWp.seqH fun KC => ?_) | (refine AWp.block ?_) | (refine AWp.region ?_) | (refine AWp.skip ?_) | (refine aops_callH rfl fun kC => ?_) | (refine AWp.condB ?_) | (simp only [bse, wk, tys, storeH_ptr, Nat.reduceEqDiff, ↓reduceIte, reduceCtorEq, Nat.reduceAdd, Nat.reduceLeDiff, Int.reduceBEq, Int.reduceLT, Int.reduceLE, Int.reduceEq, ne_eq, not_false_eq_true, Nat.reduceMul, ruleE_val, ruleE_sz, Int.cast_ofNat_Int, *]))
  refine AWp.loopH [44, 45, 46, 47, 51, 52, 53, 54, 55, 50, 56, 57, 10, 11, 58, 59, 60, 61, 6, 62, 63, 64, 65, 66, 67, 48, 49, 9] (fun m e2 H2 => ∃ (k : Nat) (acc : Bool) (a : Option Addr) (n v : Nat) (M : AH), k ≤ lw.length ∧ m = lw.length - k ∧ e2 9 = .int .i64 k ∧ e2 6 = .bool acc ∧ H2 = ⟨115, 0, [.slice none 0 0, .int .i64 0, .int .i64 0], 0, true⟩ :: ⟨115, 0, [.slice a n v, .int .i64 x0, .int .i64 0], 0, true⟩ :: M ∧ Hid (SlM 2 2 intE M a n v ((lw.take k).map fun w => (numD 3 w).1)) ∧ Hid (acc = (o0 && (lw.take k).all fun w => (numD 3 w).2))) lw.length ⟨0, _, none, 0, 0, [], by omega, by omega, rfl, rfl, rfl, SlM.nil _ _ _ _, by unfold Hid; simp⟩ ?_
  rintro m e2 H2 hA ⟨k, acc, a, n, v, M, hk, rfl, e9, e6, rfl, hM, hacc⟩ hJ
  have a2 := hA 2 rfl; have a3 := hA 3 rfl; have a4 := hA 4 rfl; have a7 := hA 7 rfl; have a8 := hA 8 rfl; try simp only [bse, wk, tys, storeH_ptr, Nat.reduceEqDiff, ↓reduceIte, reduceCtorEq, Nat.reduceAdd, Nat.reduceLeDiff, Int.reduceBEq, Int.reduceLT, Int.reduceLE, Int.reduceEq, ne_eq, not_false_eq_true, Nat.reduceMul] at a2 a3 a4 a7 a8; clear hA
  by_cases hkl : k < lw.length
  · have hlt' : (k : Int) < (lw.length : Int) := by omega
    have hw := wr_succ (k := k) (by omega)
    have hkb : (lw.map bs)[k]'(by omega) = bs lw[k] := List.getElem_map ..
    have hn := hnum k hkl
    have hst : Hid ((acc && (numD 3 lw[k]).2) = (o0 && (lw.take (k + 1)).all fun w => (numD 3 w).2)) := by unfold Hid; rw [all_step _ _ _ hkl, ← Bool.and_assoc, ← hacc.out]
    have hmp := map_step (fun w => (numD 3 w).1) lw k hkl
    have hyl : ((lw.take k).map fun w => (numD 3 w).1).length = k := by rw [List.length_map, List.length_take]; omega
    obtain ⟨a', n', v', M', hap, hM', _, _⟩ := hM.out.app (P := Tryz.prog) (B := 0) [⟨115, 0, [.slice none 0 0, .int .i64 0, .int .i64 0], 0, true⟩, ⟨115, 0, [.slice a n v, .int .i64 x0, .int .i64 0], 0, true⟩] rfl (M.length + 1 + 1) (by omega) elZ27 elZ27 zOk27 (Nat.zero_le _) (numD 3 lw[k]).1 (by omega) (by omega)
    simp only [intE_sz, intE_val, cells_int, List.cons_append, List.nil_append] at hap
    rw [← hmp] at hM'
    have hM2 : Hid _ := hM'
    clear hM' hM hmp hyl hacc hnum hfl
    generalize (numD 3 lw[k]).1 = y at hn hap
    generalize (numD 3 lw[k]).2 = g at hn hst
    have h3 : acc = false ∨ (acc = true ∧ g = false) ∨ (acc = true ∧ g = true) := by cases acc <;> cases g <;> simp
    rcases h3 with rfl | ⟨rfl, rfl⟩ | ⟨rfl, rfl⟩
    all_goals
      simp only [Bool.false_and, Bool.and_false, Bool.true_and, Bool.and_true] at hst
      repeat' (first | (refine ACalls.start ?_; first | (refine ACalls.ofJi (hn) rfl ?_)) | (refine KV.run _ ?_) | (refine KT.run _ ?_) | (refine AWp.seqH fun KC => ?_) | (refine AWp.block ?_) | (refine AWp.region ?_) | (refine AWp.skip ?_) | (refine aops_callH rfl fun kC => ?_) | (refine AWp.condB ?_) | (simp only [bse, wk, tys, storeH_ptr, Nat.reduceEqDiff, ↓reduceIte, reduceCtorEq, Nat.reduceAdd, Nat.reduceLeDiff, Int.reduceBEq, Int.reduceLT, Int.reduceLE, Int.reduceEq, ne_eq, not_false_eq_true, Nat.reduceMul, ruleE_val, ruleE_sz, Int.cast_ofNat_Int, *]))
      exact hJ.out _ _ ⟨lw.length - (k + 1), by omega, k + 1, _, a', n', v', M', by omega, rfl, rfl, rfl, rfl, hM2.out, hst⟩ (by repeat (first | exact Agree.refl _ _ | assumption | refine Agree.put ?_ rfl _))
  · have hlt' : ¬ (k : Int) < (lw.length : Int) := by omega
    have hke : k = lw.length := by omega
    subst hke
    rw [List.take_length] at hM hacc
    have hSM := hM.out
    have hR2 : R = (⟨lw.map fun w => (numD 3 w).1, x0, 0⟩, acc && (F == 0)) := by rw [hRH.out, hacc.out]
    clear hRH hacc hM hnum
    obtain ⟨f0, hf0⟩ : ∃ f0, f0 = (F == 0) := ⟨_, rfl⟩
    rw [← hf0] at hR2
    have hf0' := hf0.symm
    clear hf0
    have h3 : acc = false ∨ acc = true := by cases acc <;> simp
    rcases h3 with rfl | rfl
    all_goals
      simp only [Bool.false_and, Bool.and_false, Bool.true_and, Bool.and_true] at hR2
      subst hR2
      dsimp only
      have hpk : ∀ (B : Nat) (b0 : Blk), ACalls Tryz.prog B 97 [.pointer (some ⟨1, 0, some 0⟩)] (b0 :: ⟨115, 0, [.slice a n v, .int .i64 x0, .int .i64 0], 0, true⟩ :: M) fun d H2 => d = .int .i64 F ∧ (b0 :: ⟨115, 0, [.slice a n v, .int .i64 x0, .int .i64 0], 0, true⟩ :: M) = H2 := fun B b0 =>
        ACalls.ofP hfl (.cons (Bor.ptrL (blk := ⟨115, 0, [.slice a n v, .int .i64 x0, .int .i64 0], 0, true⟩) rfl rfl rfl ⟨_, .cons (hSM.bor [b0, _] rfl) (.cons (.same _ (.flat _ rfl)) (.cons (.same _ (.flat _ rfl)) .nil)), rfl⟩ (by simp)) .nil) rfl ⟨rfl, rfl⟩
      have hbor : ∀ b0 b1 : Blk, Bor (b0 :: b1 :: M) (.slice a n v) (islE intE (lw.map fun w => (numD 3 w).1)) := fun b0 b1 => hSM.bor [b0, b1] rfl
      clear hSM hfl
      repeat' (first | (refine AWp.mixedT (id := 17) (.cons 0 0 (.cons 1 0 (.cons 2 0 (.cons 3 1 (.alt 4 1 (.alt 5 1 (.cons 6 2 (.cons 7 0 .nil)) (.cons 6 2 (.cons 5 0 (.cons 7 0 .nil)))) (.cons 6 2 (.cons 4 0 (.cons 5 0 (.cons 7 0 .nil))))))))) (by kernel_rfl) (by kernel_rfl) ?_) | (refine mopsT_step0 rfl rfl fun KC => ?_) | (refine mopsT_step1 rfl fun KC => ?_) | (refine mopsT_step2 rfl fun KC => ?_) | (refine mopsT_alt1 rfl (fun KC => ?_) ?_) | (refine ACalls.start ?_; first | (refine ACalls.get (hpk _ _) (by first | exact Nat.le_refl _ | exact Nat.zero_le _ | (simp only [List.length_append, List.length_cons, List.length_nil]; omega) | (simp only [List.length_set]; omega) | omega) (by first | exact Nat.le_refl _ | exact Nat.zero_le _ | (simp only [List.length_append, List.length_cons, List.length_nil]; omega) | (simp only [List.length_set]; omega) | omega) ?_; rintro _ _ ⟨rfl, rfl⟩)) | (refine KV.run _ ?_) | (refine KT.run _ ?_) | (refine AWp.seqH fun KC => ?_) | (refine AWp.region ?_) | (refine AWp.ret ?_) | (refine AWp.skip ?_) | (refine AWp.exit ?_) | (refine aops_callH rfl fun kC => ?_) | (refine AWp.condB ?_) | (simp only [bse, wk, tys, storeH_ptr, Nat.reduceEqDiff, ↓reduceIte, reduceCtorEq, Nat.reduceAdd, Nat.reduceLeDiff, Int.reduceBEq, Int.reduceLT, Int.reduceLE, Int.reduceEq, ne_eq, not_false_eq_true, Nat.reduceMul, ruleE_val, ruleE_sz, Int.cast_ofNat_Int, *]))
      all_goals try
        refine ACalls.get (hpk (M.length + 1 + 1) _) (by simp) (Nat.le_refl _) ?_
        rintro _ _ ⟨rfl, rfl⟩
        skip
      all_goals exact Bor.tupleL (.cons (Bor.aggL (.cons (hbor _ _) (.cons (.same _ (.flat _ rfl)) (.cons (.same _ (.flat _ rfl)) .nil)))) (.cons (.same _ (.flat _ rfl)) .nil))
theorem l2Parse5 (t w0 w1 w2 w3 w4 : List UInt8) (hw : cutL 32 t = [w0, w1, w2, w3, w4]) (hof : w1 = [111, 102]) (ht : t.length ≤ 300) (R : TRule × Bool) (hR : R = (⟨keysD w2, (numD 1 w0).1, (numD 3 w4).1⟩, (numD 1 w0).2 && keysOk w2 && ((numD 3 w4).2 && (w3 == [97, 102, 116, 101, 114]) && decide (0 < (numD 3 w4).1)) && (ruleFault (keysD w2) (numD 1 w0).1 (numD 3 w4).1 == 0))) : PCalls Tryz.prog 79 [.string (bs t)] (.tuple #[ruleE.val R.1, .bool R.2]) := by
  have hsp := spec_l2Cut t 32 32 rfl (by omega)
  have hW : cutW 32 t = [bs w0, bs w1, bs w2, bs w3, bs w4] := by unfold cutW; rw [hw]; rfl
  rw [hW] at hsp
  have hlt := cutL_mem 32 t
  rw [hw] at hlt
  have q3 : (((5 : Nat) : Int) == 3) = false := rfl
  have q5 : (((5 : Nat) : Int) == 5) = true := rfl
  have ix0 : ∀ H : AH, idxV Tryz.prog H 22 (islE strE [bs w0, bs w1, bs w2, bs w3, bs w4]) (.int .i64 0) = some (ip [.string (bs w0), .string (bs w1), .string (bs w2), .string (bs w3), .string (bs w4)]) := fun H => idxV_isl (P := Tryz.prog) (H := H) (n := 5) (k := 0) (kd := .i64) (cs := strE.flat [bs w0, bs w1, bs w2, bs w3, bs w4]) elZ22 (by omega)
  have ix1 : ∀ H : AH, idxV Tryz.prog H 22 (islE strE [bs w0, bs w1, bs w2, bs w3, bs w4]) (.int .i64 1) = some (ip [.string (bs w1), .string (bs w2), .string (bs w3), .string (bs w4)]) := fun H => idxV_isl (P := Tryz.prog) (H := H) (n := 5) (k := 1) (kd := .i64) (cs := strE.flat [bs w0, bs w1, bs w2, bs w3, bs w4]) elZ22 (by omega)
  have ix2 : ∀ H : AH, idxV Tryz.prog H 22 (islE strE [bs w0, bs w1, bs w2, bs w3, bs w4]) (.int .i64 2) = some (ip [.string (bs w2), .string (bs w3), .string (bs w4)]) := fun H => idxV_isl (P := Tryz.prog) (H := H) (n := 5) (k := 2) (kd := .i64) (cs := strE.flat [bs w0, bs w1, bs w2, bs w3, bs w4]) elZ22 (by omega)
  have ix3 : ∀ H : AH, idxV Tryz.prog H 22 (islE strE [bs w0, bs w1, bs w2, bs w3, bs w4]) (.int .i64 3) = some (ip [.string (bs w3), .string (bs w4)]) := fun H => idxV_isl (P := Tryz.prog) (H := H) (n := 5) (k := 3) (kd := .i64) (cs := strE.flat [bs w0, bs w1, bs w2, bs w3, bs w4]) elZ22 (by omega)
  have ix4 : ∀ H : AH, idxV Tryz.prog H 22 (islE strE [bs w0, bs w1, bs w2, bs w3, bs w4]) (.int .i64 4) = some (ip [.string (bs w4)]) := fun H => idxV_isl (P := Tryz.prog) (H := H) (n := 5) (k := 4) (kd := .i64) (cs := strE.flat [bs w0, bs w1, bs w2, bs w3, bs w4]) elZ22 (by omega)
  have ld := ld_str
  have hof' : (bs w1 == ⟨#[111, 102]⟩) = true := by rw [show (bs w1 == ⟨#[111, 102]⟩) = (w1 == [111, 102]) from bs_beq w1 [111, 102]]; simpa using hof
  have m0 : PCalls Tryz.prog 68 [.string (bs w0), .int .i64 1] (.tuple #[.int .i64 (numD 1 w0).1, .bool (numD 1 w0).2]) := spec_l2Number w0 1 (by omega) (by have := hlt w0 (by simp); omega)
  have m4 : PCalls Tryz.prog 68 [.string (bs w4), .int .i64 3] (.tuple #[.int .i64 (numD 3 w4).1, .bool (numD 3 w4).2]) := spec_l2Number w4 3 (by omega) (by have := hlt w4 (by simp); omega)
  have haf : (bs w3 == ⟨#[97, 102, 116, 101, 114]⟩) = (w3 == [97, 102, 116, 101, 114]) := bs_beq w3 [97, 102, 116, 101, 114]
  have hsc := spec_l2Cut w2 44 44 rfl (by have := hlt w2 (by simp); omega)
  have hwl : ∀ w ∈ cutL 44 w2, w.length ≤ 300 := fun w hw => by have := cutL_mem 44 w2 w hw; have := hlt w2 (by simp); omega
  have hln : (cutL 44 w2).length ≤ 301 := by have := cutL_len 44 w2; have := hlt w2 (by simp); omega
  have hcw : cutW 44 w2 = (cutL 44 w2).map bs := rfl
  rw [hcw] at hsc
  clear hW hlt hw ht hcw hof
  unfold keysD keysOk at hR
  generalize cutL 44 w2 = lw at hsc hwl hln hR
  have hml : (lw.map bs).length = lw.length := List.length_map ..
  have hnum : ∀ (k : Nat) (hk : k < lw.length), PCalls Tryz.prog 68 [.string (bs lw[k]), .int .i64 3] (.tuple #[.int .i64 (numD 3 lw[k]).1, .bool (numD 3 lw[k]).2]) := fun k hk => spec_l2Number lw[k] 3 (by omega) (by have := hwl _ (List.getElem_mem hk); omega)
  generalize numD 1 w0 = r0 at m0 hR
  obtain ⟨x0, o0⟩ := r0
  generalize numD 3 w4 = r4 at m4 hR
  obtain ⟨x4, o4⟩ := r4
  obtain ⟨o3, ho3⟩ : ∃ o3, o3 = (w3 == [97, 102, 116, 101, 114]) := ⟨_, rfl⟩
  rw [← ho3] at haf hR
  clear ho3
  dsimp only at m0 hR m4
  have hfl := spec_l2Fault (lw.map fun w => (numD 3 w).1) x0 x4 (by rw [List.length_map]; omega)
  obtain ⟨F, hFe⟩ : ∃ F, F = ruleFault (lw.map fun w => (numD 3 w).1) x0 x4 := ⟨_, rfl⟩
  rw [← hFe] at hfl hR
  have hRH : Hid _ := hR
  clear hFe hwl hR
  refine PCalls.of ?_; refine ACalls.enter (n := 100) (rs := [.cell 2 115, .tmp 3]) Tryz.func79 rfl rfl rfl (by kernel_rfl) (by kernel_rfl) (by kernel_rfl) (Nat.le_of_ble_eq_true rfl) ?_
  repeat' (first | (refine ACalls.start ?_; first | (refine ACalls.ofJi (hsp) rfl ?_) | (refine ACalls.ofJi (m0) rfl ?_) | (refine ACalls.ofJi (hsc) rfl ?_)) | (refine KV.run _ ?_) | (refine KT.run _ ?_) | (refine AWp.seqH fun KC => ?_) | (refine AWp.block ?_) | (refine AWp.region ?_) | (refine AWp.skip ?_) | (refine aops_callH rfl fun kC => ?_) | (refine AWp.condB ?_) | (simp only [bse, wk, tys, storeH_ptr, Nat.reduceEqDiff, ↓reduceIte, reduceCtorEq, Nat.reduceAdd, Nat.reduceLeDiff, Int.reduceBEq, Int.reduceLT, Int.reduceLE, Int.reduceEq, ne_eq, not_false_eq_true, Nat.reduceMul, ruleE_val, ruleE_sz, Int.cast_ofNat_Int, *]))
  refine AWp.loopH [44, 45, 46, 47, 51, 52, 53, 54, 55, 50, 56, 57, 10, 11, 58, 59, 60, 61, 6, 62, 63, 64, 65, 66, 67, 48, 49, 9] (fun m e2 H2 => ∃ (k : Nat) (acc : Bool) (a : Option Addr) (n v : Nat) (M : AH), k ≤ lw.length ∧ m = lw.length - k ∧ e2 9 = .int .i64 k ∧ e2 6 = .bool acc ∧ H2 = ⟨115, 0, [.slice none 0 0, .int .i64 0, .int .i64 0], 0, true⟩ :: ⟨115, 0, [.slice a n v, .int .i64 x0, .int .i64 0], 0, true⟩ :: M ∧ Hid (SlM 2 2 intE M a n v ((lw.take k).map fun w => (numD 3 w).1)) ∧ Hid (acc = (o0 && (lw.take k).all fun w => (numD 3 w).2))) lw.length ⟨0, _, none, 0, 0, [], by omega, by omega, rfl, rfl, rfl, SlM.nil _ _ _ _, by unfold Hid; simp⟩ ?_
  rintro m e2 H2 hA ⟨k, acc, a, n, v, M, hk, rfl, e9, e6, rfl, hM, hacc⟩ hJ
  have a2 := hA 2 rfl; have a3 := hA 3 rfl; have a4 := hA 4 rfl; have a7 := hA 7 rfl; have a8 := hA 8 rfl; try simp only [bse, wk, tys, storeH_ptr, Nat.reduceEqDiff, ↓reduceIte, reduceCtorEq, Nat.reduceAdd, Nat.reduceLeDiff, Int.reduceBEq, Int.reduceLT, Int.reduceLE, Int.reduceEq, ne_eq, not_false_eq_true, Nat.reduceMul] at a2 a3 a4 a7 a8; clear hA
  by_cases hkl : k < lw.length
  · have hlt' : (k : Int) < (lw.length : Int) := by omega
    have hw := wr_succ (k := k) (by omega)
    have hkb : (lw.map bs)[k]'(by omega) = bs lw[k] := List.getElem_map ..
    have hn := hnum k hkl
    have hst : Hid ((acc && (numD 3 lw[k]).2) = (o0 && (lw.take (k + 1)).all fun w => (numD 3 w).2)) := by unfold Hid; rw [all_step _ _ _ hkl, ← Bool.and_assoc, ← hacc.out]
    have hmp := map_step (fun w => (numD 3 w).1) lw k hkl
    have hyl : ((lw.take k).map fun w => (numD 3 w).1).length = k := by rw [List.length_map, List.length_take]; omega
    obtain ⟨a', n', v', M', hap, hM', _, _⟩ := hM.out.app (P := Tryz.prog) (B := 0) [⟨115, 0, [.slice none 0 0, .int .i64 0, .int .i64 0], 0, true⟩, ⟨115, 0, [.slice a n v, .int .i64 x0, .int .i64 0], 0, true⟩] rfl (M.length + 1 + 1) (by omega) elZ27 elZ27 zOk27 (Nat.zero_le _) (numD 3 lw[k]).1 (by omega) (by omega)
    simp only [intE_sz, intE_val, cells_int, List.cons_append, List.nil_append] at hap
    rw [← hmp] at hM'
    have hM2 : Hid _ := hM'
    clear hM' hM hmp hyl hacc hnum hfl
    generalize (numD 3 lw[k]).1 = y at hn hap
    generalize (numD 3 lw[k]).2 = g at hn hst
    have h3 : acc = false ∨ (acc = true ∧ g = false) ∨ (acc = true ∧ g = true) := by cases acc <;> cases g <;> simp
    rcases h3 with rfl | ⟨rfl, rfl⟩ | ⟨rfl, rfl⟩
    all_goals
      simp only [Bool.false_and, Bool.and_false, Bool.true_and, Bool.and_true] at hst
      repeat' (first | (refine ACalls.start ?_; first | (refine ACalls.ofJi (hn) rfl ?_)) | (refine KV.run _ ?_) | (refine KT.run _ ?_) | (refine AWp.seqH fun KC => ?_) | (refine AWp.block ?_) | (refine AWp.region ?_) | (refine AWp.skip ?_) | (refine aops_callH rfl fun kC => ?_) | (refine AWp.condB ?_) | (simp only [bse, wk, tys, storeH_ptr, Nat.reduceEqDiff, ↓reduceIte, reduceCtorEq, Nat.reduceAdd, Nat.reduceLeDiff, Int.reduceBEq, Int.reduceLT, Int.reduceLE, Int.reduceEq, ne_eq, not_false_eq_true, Nat.reduceMul, ruleE_val, ruleE_sz, Int.cast_ofNat_Int, *]))
      exact hJ.out _ _ ⟨lw.length - (k + 1), by omega, k + 1, _, a', n', v', M', by omega, rfl, rfl, rfl, rfl, hM2.out, hst⟩ (by repeat (first | exact Agree.refl _ _ | assumption | refine Agree.put ?_ rfl _))
  · have hlt' : ¬ (k : Int) < (lw.length : Int) := by omega
    have hke : k = lw.length := by omega
    subst hke
    rw [List.take_length] at hM hacc
    have hSM := hM.out
    have hR2 : R = (⟨lw.map fun w => (numD 3 w).1, x0, x4⟩, acc && (o4 && o3 && decide (0 < x4)) && (F == 0)) := by rw [hRH.out, hacc.out]
    clear hRH hacc hM hnum
    obtain ⟨f0, hf0⟩ : ∃ f0, f0 = (F == 0) := ⟨_, rfl⟩
    rw [← hf0] at hR2
    have hf0' := hf0.symm
    clear hf0
    have h3 : acc = false ∨ (acc = true ∧ o4 = false) ∨ (acc = true ∧ o4 = true ∧ o3 = false) ∨ (acc = true ∧ o4 = true ∧ o3 = true ∧ ¬ 0 < x4) ∨ (acc = true ∧ o4 = true ∧ o3 = true ∧ 0 < x4) := by by_cases hx : 0 < x4 <;> cases acc <;> cases o4 <;> cases o3 <;> simp [hx]
    rcases h3 with rfl | ⟨rfl, rfl⟩ | ⟨rfl, rfl, rfl⟩ | ⟨rfl, rfl, rfl, hx4⟩ | ⟨rfl, rfl, rfl, hx4⟩
    all_goals
      simp only [Bool.false_and, Bool.and_false, Bool.true_and, Bool.and_true, decide_true, decide_false, *] at hR2
      subst hR2
      dsimp only
      have hpk : ∀ (B : Nat) (b0 : Blk), ACalls Tryz.prog B 97 [.pointer (some ⟨1, 0, some 0⟩)] (b0 :: ⟨115, 0, [.slice a n v, .int .i64 x0, .int .i64 x4], 0, true⟩ :: M) fun d H2 => d = .int .i64 F ∧ (b0 :: ⟨115, 0, [.slice a n v, .int .i64 x0, .int .i64 x4], 0, true⟩ :: M) = H2 := fun B b0 =>
        ACalls.ofP hfl (.cons (Bor.ptrL (blk := ⟨115, 0, [.slice a n v, .int .i64 x0, .int .i64 x4], 0, true⟩) rfl rfl rfl ⟨_, .cons (hSM.bor [b0, _] rfl) (.cons (.same _ (.flat _ rfl)) (.cons (.same _ (.flat _ rfl)) .nil)), rfl⟩ (by simp)) .nil) rfl ⟨rfl, rfl⟩
      have hbor : ∀ b0 b1 : Blk, Bor (b0 :: b1 :: M) (.slice a n v) (islE intE (lw.map fun w => (numD 3 w).1)) := fun b0 b1 => hSM.bor [b0, b1] rfl
      clear hSM hfl
      repeat' (first | (refine AWp.mixedT (id := 17) (.cons 0 0 (.cons 1 0 (.cons 2 0 (.cons 3 1 (.alt 4 1 (.alt 5 1 (.cons 6 2 (.cons 7 0 .nil)) (.cons 6 2 (.cons 5 0 (.cons 7 0 .nil)))) (.cons 6 2 (.cons 4 0 (.cons 5 0 (.cons 7 0 .nil))))))))) (by kernel_rfl) (by kernel_rfl) ?_) | (refine mopsT_step0 rfl rfl fun KC => ?_) | (refine mopsT_step1 rfl fun KC => ?_) | (refine mopsT_step2 rfl fun KC => ?_) | (refine mopsT_alt1 rfl (fun KC => ?_) ?_) | (refine ACalls.start ?_; first | (refine ACalls.ofJi (m4) rfl ?_) | (refine ACalls.get (hpk _ _) (by first | exact Nat.le_refl _ | exact Nat.zero_le _ | (simp only [List.length_append, List.length_cons, List.length_nil]; omega) | (simp only [List.length_set]; omega) | omega) (by first | exact Nat.le_refl _ | exact Nat.zero_le _ | (simp only [List.length_append, List.length_cons, List.length_nil]; omega) | (simp only [List.length_set]; omega) | omega) ?_; rintro _ _ ⟨rfl, rfl⟩)) | (refine KV.run _ ?_) | (refine KT.run _ ?_) | (refine AWp.seqH fun KC => ?_) | (refine AWp.region ?_) | (refine AWp.ret ?_) | (refine AWp.exit ?_) | (refine aops_callH rfl fun kC => ?_) | (refine AWp.condB ?_) | (simp only [bse, wk, tys, storeH_ptr, Nat.reduceEqDiff, ↓reduceIte, reduceCtorEq, Nat.reduceAdd, Nat.reduceLeDiff, Int.reduceBEq, Int.reduceLT, Int.reduceLE, Int.reduceEq, ne_eq, not_false_eq_true, Nat.reduceMul, ruleE_val, ruleE_sz, Int.cast_ofNat_Int, *]))
      all_goals try
        refine ACalls.get (hpk (M.length + 1 + 1) _) (by simp) (Nat.le_refl _) ?_
        rintro _ _ ⟨rfl, rfl⟩
        skip
      all_goals exact Bor.tupleL (.cons (Bor.aggL (.cons (hbor _ _) (.cons (.same _ (.flat _ rfl)) (.cons (.same _ (.flat _ rfl)) .nil)))) (.cons (.same _ (.flat _ rfl)) .nil))
theorem l2ParseN (t : List UInt8) (hw : ¬ (cutL 32 t).length = 3) (hw5 : ¬ (cutL 32 t).length = 5) (ht : t.length ≤ 300) : PCalls Tryz.prog 79 [.string (bs t)] (.tuple #[ruleE.val rule0, .bool false]) := by
  have hsp := spec_l2Cut t 32 32 rfl (by omega)
  have hcl : (cutW 32 t).length = (cutL 32 t).length := List.length_map ..
  have q3 : (((cutW 32 t).length : Int) == 3) = false := by rw [hcl]; simp; omega
  have q5 : (((cutW 32 t).length : Int) == 5) = false := by rw [hcl]; simp; omega
  clear hcl hw hw5
  refine PCalls.of ?_; refine ACalls.enter (n := 100) (rs := [.cell 2 115, .tmp 3]) Tryz.func79 rfl rfl rfl (by kernel_rfl) (by kernel_rfl) (by kernel_rfl) (Nat.le_of_ble_eq_true rfl) ?_
  repeat' (first | (refine ACalls.start ?_; first | (refine ACalls.ofJi (hsp) rfl ?_)) | (refine KV.run _ ?_) | (refine KT.run _ ?_) | (refine AWp.seqH fun KC => ?_) | (refine AWp.region ?_) | (refine AWp.ret ?_) | (refine aops_callH rfl fun kC => ?_) | (refine AWp.condB ?_) | (simp only [bse, wk, tys, storeH_ptr, Nat.reduceEqDiff, ↓reduceIte, reduceCtorEq, Nat.reduceAdd, Nat.reduceLeDiff, Int.reduceBEq, Int.reduceLT, Int.reduceLE, Int.reduceEq, ne_eq, not_false_eq_true, Nat.reduceMul, ruleE_val, ruleE_sz, Int.cast_ofNat_Int, *]))
  all_goals exact bor_rule0 false
theorem l2ParseO (t w0 w1 : List UInt8) (ws : List (List UInt8)) (hw : cutL 32 t = w0 :: w1 :: ws) (hl : ((ws.length + 1 + 1 : Nat) : Int) = 3 ∨ ((ws.length + 1 + 1 : Nat) : Int) = 5) (h1 : ¬ w1 = [111, 102]) (ht : t.length ≤ 300) : PCalls Tryz.prog 79 [.string (bs t)] (.tuple #[ruleE.val rule0, .bool false]) := by
  have hsp := spec_l2Cut t 32 32 rfl (by omega)
  obtain ⟨W, hW⟩ : ∃ W, W = cutW 32 t := ⟨_, rfl⟩
  have hWe : W = bs w0 :: bs w1 :: ws.map bs := by rw [hW]; unfold cutW; rw [hw]; rfl
  have hWl : W.length = ws.length + 1 + 1 := by rw [hWe]; simp
  rw [← hW] at hsp
  have hof' : (bs w1 == ⟨#[111, 102]⟩) = false := by rw [show (bs w1 == ⟨#[111, 102]⟩) = (w1 == [111, 102]) from bs_beq w1 [111, 102]]; simpa using h1
  have ix1 : ∀ H : AH, idxV Tryz.prog H 22 (islE strE W) (.int .i64 1) = some (ip (.string (bs w1) :: strE.flat (ws.map bs))) := fun H => by
    rw [hWe]
    exact idxV_isl (P := Tryz.prog) (H := H) (n := (bs w0 :: bs w1 :: ws.map bs).length) (k := 1) (kd := .i64) (cs := strE.flat (bs w0 :: bs w1 :: ws.map bs)) elZ22 (by simp)
  have ld := ld_str
  rw [← hWl] at hl
  have hl2 : ((W.length : Int) == 3) = true ∨ (((W.length : Int) == 3) = false ∧ ((W.length : Int) == 5) = true) := by
    rcases hl with h | h <;> rw [h] <;> simp
  clear hl hWl hWe hW h1 hw
  rcases hl2 with hl | ⟨hl, hl5⟩
  · refine PCalls.of ?_; refine ACalls.enter (n := 100) (rs := [.cell 2 115, .tmp 3]) Tryz.func79 rfl rfl rfl (by kernel_rfl) (by kernel_rfl) (by kernel_rfl) (Nat.le_of_ble_eq_true rfl) ?_
    repeat' (first | (refine ACalls.start ?_; first | (refine ACalls.ofJi (hsp) rfl ?_)) | (refine KV.run _ ?_) | (refine KT.run _ ?_) | (refine AWp.seqH fun KC => ?_) | (refine AWp.region ?_) | (refine AWp.ret ?_) | (refine aops_callH rfl fun kC => ?_) | (refine AWp.condB ?_) | (simp only [bse, wk, tys, storeH_ptr, Nat.reduceEqDiff, ↓reduceIte, reduceCtorEq, Nat.reduceAdd, Nat.reduceLeDiff, Int.reduceBEq, Int.reduceLT, Int.reduceLE, Int.reduceEq, ne_eq, not_false_eq_true, Nat.reduceMul, ruleE_val, ruleE_sz, Int.cast_ofNat_Int, *]))
    all_goals exact bor_rule0 false
  · refine PCalls.of ?_; refine ACalls.enter (n := 100) (rs := [.cell 2 115, .tmp 3]) Tryz.func79 rfl rfl rfl (by kernel_rfl) (by kernel_rfl) (by kernel_rfl) (Nat.le_of_ble_eq_true rfl) ?_
    repeat' (first | (refine ACalls.start ?_; first | (refine ACalls.ofJi (hsp) rfl ?_)) | (refine KV.run _ ?_) | (refine KT.run _ ?_) | (refine AWp.seqH fun KC => ?_) | (refine AWp.region ?_) | (refine AWp.ret ?_) | (refine aops_callH rfl fun kC => ?_) | (refine AWp.condB ?_) | (simp only [bse, wk, tys, storeH_ptr, Nat.reduceEqDiff, ↓reduceIte, reduceCtorEq, Nat.reduceAdd, Nat.reduceLeDiff, Int.reduceBEq, Int.reduceLT, Int.reduceLE, Int.reduceEq, ne_eq, not_false_eq_true, Nat.reduceMul, ruleE_val, ruleE_sz, Int.cast_ofNat_Int, *]))
    all_goals exact bor_rule0 false
theorem spec_l2Parse (t : List UInt8) (ht : t.length ≤ 300) : PCalls Tryz.prog 79 [.string (bs t)] (.tuple #[ruleE.val (parR t).1, .bool (parR t).2]) := by
  unfold parR
  split
  · rename_i w0 w1 w2 hw
    by_cases h : w1 = [111, 102]
    · rw [if_pos h]; exact l2Parse3 t w0 w1 w2 hw h ht _ rfl
    · rw [if_neg h]; exact l2ParseO t w0 w1 [w2] hw (.inl rfl) h ht
  · rename_i w0 w1 w2 w3 w4 hw
    by_cases h : w1 = [111, 102]
    · rw [if_pos h]; exact l2Parse5 t w0 w1 w2 w3 w4 hw h ht _ rfl
    · rw [if_neg h]; exact l2ParseO t w0 w1 [w2, w3, w4] hw (.inr rfl) h ht
  · rename_i n3 n5
    refine l2ParseN t (fun e => ?_) (fun e => ?_) ht
    · match hq : cutL 32 t, e with
      | [a, b, d], _ => exact n3 a b d hq
    · match hq : cutL 32 t, e with
      | [a, b, d, f, g], _ => exact n5 a b d f g hq
end Go.BM
/- The text of a transaction: the reference. -/
set_option linter.unusedVariables false
set_option linter.unusedSimpArgs false
set_option maxRecDepth 100000
set_option maxHeartbeats 4000000
namespace Go.BM
open Go.Proofs Go.RowKit
attribute [local irreducible] ACalls AWp aops qops optK optP cK gateA condK mops qcallK PCalls loadV fldV idxV lenV slV storeH binS
open Go.Proofs in
theorem swap_id {x y : UInt8} {l : List UInt8} (h : ∀ b ∈ l, b ≠ x) : swapL x y l = l := by
  unfold swapL
  conv => rhs; rw [← List.map_id l]
  apply List.map_congr_left
  intro b hb
  unfold swB
  rw [if_neg (h b hb)]
  rfl
open Go.Proofs in
theorem swap_app (x y : UInt8) (a b : List UInt8) : swapL x y (a ++ b) = swapL x y a ++ swapL x y b := by
  unfold swapL; rw [List.map_append]
theorem digit_ne (n : Nat) : ∀ b ∈ Lib.decDigits n, 48 ≤ b.toNat ∧ b.toNat ≤ 57 := by
  induction n using Nat.strongRecOn with
  | _ n ih =>
    intro b hb
    by_cases h : n < 10
    · rw [Lib.decDigits, dif_pos h] at hb
      simp at hb
      subst hb
      simp
      omega
    · rw [Lib.decDigits, dif_neg h] at hb
      simp at hb
      rcases hb with hb | rfl
      · exact ih _ (by omega) b hb
      · simp
        omega
theorem itoa_ne {x : Int} (h0 : 0 ≤ x) : ∀ b ∈ Lib.itoa x, b ≠ 32 := fun b hb => by
  rw [itoa_nat h0] at hb
  have := digit_ne _ b hb
  intro e
  subst e
  simp at this
theorem joinTail_ne : ∀ xs : List Int, (∀ x ∈ xs, 0 ≤ x) → ∀ b ∈ Lib.joinTail [44] (xs.map Lib.itoa), b ≠ 32
  | [], _, b, hb => by simp [Lib.joinTail] at hb
  | x :: xs, h, b, hb => by
    have ih := joinTail_ne xs (fun y hy => h y (by simp [hy]))
    unfold Lib.joinTail at ih hb
    simp only [List.map_cons, List.flatten_cons, List.mem_append, List.mem_cons, List.not_mem_nil, or_false] at hb
    rcases hb with (rfl | hb) | hb
    · decide
    · exact itoa_ne (h x (by simp)) b hb
    · exact ih b hb
theorem joinI_ne (xs : List Int) (h : ∀ x ∈ xs, 0 ≤ x) : ∀ b ∈ joinI 44 xs, b ≠ 32 := by
  cases xs with
  | nil => intro b hb; simp [joinI, Lib.join_nil] at hb
  | cons x xs =>
    intro b hb
    unfold joinI at hb
    rw [List.map_cons, Lib.join_cons, List.mem_append] at hb
    rcases hb with hb | hb
    · exact itoa_ne (h x (by simp)) b hb
    · exact joinTail_ne xs (fun y hy => h y (by simp [hy])) b hb
open Go.Proofs in
/-- The reference's turn of blanks: the rule's text, with the other byte between. -/
theorem swap_rule (r : TRule) (hr : ruleFault r.keys r.need r.after = 0) : swapL 32 95 (ruleT 32 r) = ruleT 95 r := by
  obtain ⟨h1, h2, h3, h4⟩ := rf_bounds hr
  have e1 : swapL 32 95 (Lib.itoa r.need) = Lib.itoa r.need := swap_id (itoa_ne (by omega))
  have e2 : swapL 32 95 (Lib.itoa r.after) = Lib.itoa r.after := swap_id (itoa_ne (by omega))
  have e3 : swapL 32 95 (joinI 44 r.keys) = joinI 44 r.keys := swap_id (joinI_ne _ fun x hx => by have := h4 x hx; omega)
  have c1 : swapL 32 95 [32] = [95] := by decide
  have c2 : swapL 32 95 [111, 102] = [111, 102] := by decide
  have c3 : swapL 32 95 [97, 102, 116, 101, 114] = [97, 102, 116, 101, 114] := by decide
  unfold ruleT
  by_cases h0 : r.after = 0
  · rw [if_pos h0, if_pos h0]
    simp only [swap_app, e1, e3, c1, c2, List.append_nil]
  · rw [if_neg h0, if_neg h0]
    simp only [swap_app, e1, e2, e3, c1, c2, c3]
end Go.BM
/- The text of a transaction: the reference. -/
set_option linter.unusedVariables false
set_option linter.unusedSimpArgs false
set_option maxRecDepth 100000
set_option maxHeartbeats 4000000
namespace Go.BM
open Go.Proofs Go.RowKit
attribute [local irreducible] ACalls AWp aops qops optK optP cK gateA condK mops qcallK PCalls loadV fldV idxV lenV slV storeH binS
open Go.Proofs
/-- What the reference has told of the refs. -/
def refP (ins : List TRef) (k : Nat) : List UInt8 := if k = 0 then [] else [32] ++ Lib.join ((ins.take k).map refT) [43]
def outP (outs : List TOut) (k : Nat) : List UInt8 := Lib.joinTail [32] ((outs.take k).map outT)
theorem refP_snoc (ins : List TRef) (k : Nat) (hk : k < ins.length) : refP ins (k + 1) = refP ins k ++ [if k = 0 then 32 else 43] ++ refT ins[k] := by
  unfold refP
  rw [if_neg (by omega)]
  cases k with
  | zero =>
    cases ins with
    | nil => simp at hk
    | cons a l => simp [Lib.join_one]
  | succ j =>
    rw [if_neg (by omega), if_neg (by omega)]
    cases ins with
    | nil => simp at hk
    | cons a l =>
      have hj : j < l.length := by simpa using hk
      simp only [List.take_succ_cons, List.map_cons, List.getElem_cons_succ]
      rw [Lib.join_cons, Lib.join_cons, List.take_succ_eq_append_getElem hj, List.map_append, List.map_cons, List.map_nil, joinTail_snoc]
      simp only [List.append_assoc]
theorem outP_snoc (outs : List TOut) (k : Nat) (hk : k < outs.length) : outP outs (k + 1) = outP outs k ++ [32] ++ outT outs[k] := by
  unfold outP
  rw [List.take_succ_eq_append_getElem hk, List.map_append, List.map_cons, List.map_nil, joinTail_snoc]
theorem refP_len (ins : List TRef) (hI : ∀ x ∈ ins, (refT x).length ≤ 15) (h4 : ins.length ≤ 4) (k : Nat) : (refP ins k).length ≤ 65 := by
  unfold refP
  split
  · simp
  · have := join_lenN 43 15 ((ins.take k).map refT) (fun w hw => by obtain ⟨x, hx, rfl⟩ := List.mem_map.1 hw; exact hI x (List.mem_of_mem_take hx))
    have h5 : ((ins.take k).map refT).length ≤ 4 := by rw [List.length_map, List.length_take]; omega
    have h6 : ((ins.take k).map refT).length * (15 + 1) ≤ 4 * 16 := Nat.mul_le_mul_right _ h5
    simp only [List.length_append, List.length_cons, List.length_nil]
    omega
theorem outP_len (outs : List TOut) (hI : ∀ x ∈ outs, (outT x).length ≤ 48) (h4 : outs.length ≤ 4) (k : Nat) : (outP outs k).length ≤ 196 := by
  unfold outP
  have := joinTail_lenN 32 48 ((outs.take k).map outT) (fun w hw => by obtain ⟨x, hx, rfl⟩ := List.mem_map.1 hw; exact hI x (List.mem_of_mem_take hx))
  have h5 : ((outs.take k).map outT).length ≤ 4 := by rw [List.length_map, List.length_take]; omega
  have h6 : ((outs.take k).map outT).length * (48 + 1) ≤ 4 * 49 := Nat.mul_le_mul_right _ h5
  omega
theorem l3Text0 (member : Int) (ins : List TRef) (outs : List TOut) (h0 : txFault ⟨0, member, ins, outs⟩ = 0) :
    PCalls Tryz.prog 82 [ip [.int .i64 0, .int .i64 member, islE refE ins, islE outE outs]] (.string (bs (txT ⟨0, member, ins, outs⟩))) := by
  obtain ⟨_, hkm, hm, hi, ho, hI, hO⟩ := tx_bounds h0
  dsimp only at *
  clear h0
  have hIr : ∀ x ∈ ins, (refT x).length ≤ 15 := fun x hx => by
    have := hI x hx; have q1 := itoa_len7 (x := x.tx) (by omega) (by omega); have q2 := itoa_len7 (x := x.at') (by omega) (by omega); unfold refT; simp; omega
  have hOr : ∀ x ∈ outs, (outT x).length ≤ 48 := fun x hx => by
    have := hO x hx; have q1 := itoa_len7 (x := x.value) (by omega) (by omega); have q2 := ruleT_len 95 this.2; unfold outT; simp; omega
  have hRl := refP_len ins hIr (by omega)
  have hOl := outP_len outs hOr (by omega)
  have hmd := spec_digits member (by omega) (by omega)
  have hml := itoa_len7 (x := member) (by omega) (by omega)
  obtain ⟨K, hK⟩ : ∃ K, K = ([112, 97, 121] : List UInt8) := ⟨_, rfl⟩
  have hKl : K.length ≤ 13 := by rw [hK]; simp
  have hT : txT ⟨0, member, ins, outs⟩ = K ++ refP ins ins.length ++ outP outs outs.length := by
    unfold txT txW refP outP
    rw [hK, if_neg (show ¬ ins.length = 0 by omega), List.take_length, List.take_length]
    generalize Lib.join (ins.map refT) [43] = R
    simp [kindT, Lib.join_cons, Lib.joinTail]
  rw [hT]
  clear hT
  have g3 : (0 : Int) < ((3 : Nat) : Int) := by decide
  have g4 : Int.toNat 0 = 0 := rfl
  have hKs : Hid (Value.string ⟨#[112, 97, 121]⟩ = .string (bs K)) := by unfold Hid; rw [hK]
  clear hK hml hkm
  refine PCalls.flat rfl ?_; refine ACalls.enter (n := 94) (rs := [.tmp 2]) Tryz.func82 rfl rfl rfl (by kernel_rfl) (by kernel_rfl) (by kernel_rfl) (Nat.le_of_ble_eq_true rfl) ?_
  repeat' (first | (refine KT.run _ ?_) | (refine AWp.seqH fun KC => ?_) | (refine AWp.block ?_) | (refine AWp.region ?_) | (refine AWp.skip ?_) | (refine AWp.condB ?_) | (simp only [bse, wk, tys, storeH_ptr, Nat.reduceEqDiff, ↓reduceIte, reduceCtorEq, Nat.reduceAdd, Nat.reduceLeDiff, Int.reduceBEq, Int.reduceLT, Int.reduceLE, Int.reduceEq, ne_eq, not_false_eq_true, Nat.reduceMul, refE_val, refE_sz, outE_val, outE_sz, txE_val, txE_sz, ruleE_val, ruleE_sz, *]))
  have hini : Value.string (bs K) = .string (bs (K ++ refP ins 0)) := by simp [refP]
  refine AWp.loopH [26, 27, 28, 29, 30, 31, 32, 5, 35, 36, 37, 38, 39, 40, 41, 42, 43, 44, 45, 46, 47, 48, 49, 50, 51, 52, 53, 54, 55, 56, 57, 58, 59, 60, 3, 33, 34, 4] (fun m e' H' => ∃ k : Nat, k ≤ ins.length ∧ m = ins.length - k ∧ e' 4 = .int .i64 k ∧ e' 3 = .string (bs (K ++ refP ins k)) ∧ H' = [⟨9, 1, [.string ⟨#[112, 97, 121]⟩, .string ⟨#[106, 111, 105, 110, 32]⟩, .string ⟨#[108, 101, 97, 118, 101, 32]⟩], 0, true⟩]) ins.length ⟨0, by omega, by omega, rfl, by first | exact hini | exact hKs.out.trans hini, rfl⟩ ?_
  rintro m e' H' hA ⟨k, hk, rfl, e4, e3, rfl⟩ hJ
  have a0 := hA 0 rfl; have a2 := hA 2 rfl; try simp only [bse, wk, tys, storeH_ptr, Nat.reduceEqDiff, ↓reduceIte, reduceCtorEq, Nat.reduceAdd, Nat.reduceLeDiff, Int.reduceBEq, Int.reduceLT, Int.reduceLE, Int.reduceEq, ne_eq, not_false_eq_true, Nat.reduceMul] at a0 a2; clear hA
  clear hini g3 g4 hmd hKs
  by_cases hlt : k < ins.length
  · have hlt' : (k : Int) < (ins.length : Int) := by omega
    have hw := wr_succ (k := k) (by omega)
    have hx := hI ins[k] (List.getElem_mem hlt)
    have hd1 := spec_digits ins[k].tx (by omega) (by omega)
    have hd2 := spec_digits ins[k].at' (by omega) (by omega)
    have q1 := itoa_len7 (x := ins[k].tx) (by omega) (by omega)
    have q2 := itoa_len7 (x := ins[k].at') (by omega) (by omega)
    have hsn := refP_snoc ins k hlt
    have hXl : (K ++ refP ins k).length ≤ 78 := by rw [List.length_append]; have := hRl k; omega
    clear hI hO hIr hOr hRl hOl hx
    by_cases hk0 : k = 0
    · have hk1 : ((k : Int) == 0) = true := by simp; omega
      rw [if_pos hk0] at hsn
      obtain ⟨X, hX⟩ : ∃ X, X = K ++ refP ins k := ⟨_, rfl⟩
      obtain ⟨Y, hY⟩ : ∃ Y, Y = X ++ [32] := ⟨_, rfl⟩
      obtain ⟨Z, hZ⟩ : ∃ Z, Z = Y ++ Lib.itoa ins[k].tx := ⟨_, rfl⟩
      obtain ⟨V, hV⟩ : ∃ V, V = Z ++ [58] := ⟨_, rfl⟩
      have hE : V ++ Lib.itoa ins[k].at' = K ++ refP ins (k + 1) := by rw [hsn, hV, hZ, hY, hX]; unfold refT; simp only [List.append_assoc]
      rw [← hX] at hXl e3
      have lY : Y.length ≤ 79 := by rw [hY, List.length_append]; simp only [List.length_cons, List.length_nil]; omega
      have lZ : Z.length ≤ 86 := by rw [hZ, List.length_append]; omega
      have lV : V.length ≤ 87 := by rw [hV, List.length_append]; simp only [List.length_cons, List.length_nil]; omega
      have b1 : ∀ xo yo, binS Tryz.prog .add 9 xo yo (.string (bs X)) (.string ⟨#[32]⟩) = some (.string (bs Y)) := fun xo yo => by rw [hY]; exact bin_sadd _ _ _ X [32] (by simp only [List.length_cons, List.length_nil]; omega)
      have b2 : ∀ xo yo, binS Tryz.prog .add 9 xo yo (.string (bs Y)) (.string (bs (Lib.itoa ins[k].tx))) = some (.string (bs Z)) := fun xo yo => by rw [hZ]; exact bin_sadd _ _ _ Y (Lib.itoa ins[k].tx) (by omega)
      have b3 : ∀ xo yo, binS Tryz.prog .add 9 xo yo (.string (bs Z)) (.string ⟨#[58]⟩) = some (.string (bs V)) := fun xo yo => by rw [hV]; exact bin_sadd _ _ _ Z [58] (by simp only [List.length_cons, List.length_nil]; omega)
      have b4 : ∀ xo yo, binS Tryz.prog .add 9 xo yo (.string (bs V)) (.string (bs (Lib.itoa ins[k].at'))) = some (.string (bs (K ++ refP ins (k + 1)))) := fun xo yo => by rw [← hE]; exact bin_sadd _ _ _ V (Lib.itoa ins[k].at') (by omega)
      clear hX hY hZ hV hE hsn lY lZ lV hXl hk0 q1 q2
      repeat' (first | (refine AWp.quiet (id := 10) (by kernel_rfl) (by kernel_rfl) ?_) | (refine qcall_start ?_; first | (refine qcallFi (hd1) rfl ?_ ?_; (focus ((first | exact rfl | (simp [pureV, flatV, refE_val, refE_sz, outE_val, outE_sz, txE_val, txE_sz, ruleE_val, ruleE_sz]; done))))) | (refine qcallFi (hd2) rfl ?_ ?_; (focus ((first | exact rfl | (simp [pureV, flatV, refE_val, refE_sz, outE_val, outE_sz, txE_val, txE_sz, ruleE_val, ruleE_sz]; done)))))) | (refine KQ.run _ ?_) | (refine KT.run _ ?_) | (refine AWp.seqH fun KC => ?_) | (refine AWp.block ?_) | (refine AWp.region ?_) | (refine AWp.skip ?_) | (refine qops_callH rfl fun kC => ?_) | (refine AWp.condB ?_) | (simp only [bse, wk, tys, storeH_ptr, Nat.reduceEqDiff, ↓reduceIte, reduceCtorEq, Nat.reduceAdd, Nat.reduceLeDiff, Int.reduceBEq, Int.reduceLT, Int.reduceLE, Int.reduceEq, ne_eq, not_false_eq_true, Nat.reduceMul, refE_val, refE_sz, outE_val, outE_sz, txE_val, txE_sz, ruleE_val, ruleE_sz, *]))
      exact hJ.out _ _ ⟨ins.length - (k + 1), by omega, k + 1, by omega, rfl, rfl, by simp [put], rfl⟩ (by repeat (first | exact Agree.refl _ _ | assumption | refine Agree.put ?_ rfl _))
    · have hk1 : ((k : Int) == 0) = false := by simp; omega
      rw [if_neg hk0] at hsn
      obtain ⟨X, hX⟩ : ∃ X, X = K ++ refP ins k := ⟨_, rfl⟩
      obtain ⟨Y, hY⟩ : ∃ Y, Y = X ++ [43] := ⟨_, rfl⟩
      obtain ⟨Z, hZ⟩ : ∃ Z, Z = Y ++ Lib.itoa ins[k].tx := ⟨_, rfl⟩
      obtain ⟨V, hV⟩ : ∃ V, V = Z ++ [58] := ⟨_, rfl⟩
      have hE : V ++ Lib.itoa ins[k].at' = K ++ refP ins (k + 1) := by rw [hsn, hV, hZ, hY, hX]; unfold refT; simp only [List.append_assoc]
      rw [← hX] at hXl e3
      have lY : Y.length ≤ 79 := by rw [hY, List.length_append]; simp only [List.length_cons, List.length_nil]; omega
      have lZ : Z.length ≤ 86 := by rw [hZ, List.length_append]; omega
      have lV : V.length ≤ 87 := by rw [hV, List.length_append]; simp only [List.length_cons, List.length_nil]; omega
      have b1 : ∀ xo yo, binS Tryz.prog .add 9 xo yo (.string (bs X)) (.string ⟨#[43]⟩) = some (.string (bs Y)) := fun xo yo => by rw [hY]; exact bin_sadd _ _ _ X [43] (by simp only [List.length_cons, List.length_nil]; omega)
      have b2 : ∀ xo yo, binS Tryz.prog .add 9 xo yo (.string (bs Y)) (.string (bs (Lib.itoa ins[k].tx))) = some (.string (bs Z)) := fun xo yo => by rw [hZ]; exact bin_sadd _ _ _ Y (Lib.itoa ins[k].tx) (by omega)
      have b3 : ∀ xo yo, binS Tryz.prog .add 9 xo yo (.string (bs Z)) (.string ⟨#[58]⟩) = some (.string (bs V)) := fun xo yo => by rw [hV]; exact bin_sadd _ _ _ Z [58] (by simp only [List.length_cons, List.length_nil]; omega)
      have b4 : ∀ xo yo, binS Tryz.prog .add 9 xo yo (.string (bs V)) (.string (bs (Lib.itoa ins[k].at'))) = some (.string (bs (K ++ refP ins (k + 1)))) := fun xo yo => by rw [← hE]; exact bin_sadd _ _ _ V (Lib.itoa ins[k].at') (by omega)
      clear hX hY hZ hV hE hsn lY lZ lV hXl hk0 q1 q2
      repeat' (first | (refine AWp.quiet (id := 10) (by kernel_rfl) (by kernel_rfl) ?_) | (refine qcall_start ?_; first | (refine qcallFi (hd1) rfl ?_ ?_; (focus ((first | exact rfl | (simp [pureV, flatV, refE_val, refE_sz, outE_val, outE_sz, txE_val, txE_sz, ruleE_val, ruleE_sz]; done))))) | (refine qcallFi (hd2) rfl ?_ ?_; (focus ((first | exact rfl | (simp [pureV, flatV, refE_val, refE_sz, outE_val, outE_sz, txE_val, txE_sz, ruleE_val, ruleE_sz]; done)))))) | (refine KQ.run _ ?_) | (refine KT.run _ ?_) | (refine AWp.seqH fun KC => ?_) | (refine AWp.block ?_) | (refine AWp.region ?_) | (refine AWp.skip ?_) | (refine qops_callH rfl fun kC => ?_) | (refine AWp.condB ?_) | (simp only [bse, wk, tys, storeH_ptr, Nat.reduceEqDiff, ↓reduceIte, reduceCtorEq, Nat.reduceAdd, Nat.reduceLeDiff, Int.reduceBEq, Int.reduceLT, Int.reduceLE, Int.reduceEq, ne_eq, not_false_eq_true, Nat.reduceMul, refE_val, refE_sz, outE_val, outE_sz, txE_val, txE_sz, ruleE_val, ruleE_sz, *]))
      exact hJ.out _ _ ⟨ins.length - (k + 1), by omega, k + 1, by omega, rfl, rfl, by simp [put], rfl⟩ (by repeat (first | exact Agree.refl _ _ | assumption | refine Agree.put ?_ rfl _))
  · have hlt' : ¬ (k : Int) < (ins.length : Int) := by omega
    have hke : k = ins.length := by omega
    subst hke
    obtain ⟨K2, hK2⟩ : ∃ K2, K2 = K ++ refP ins ins.length := ⟨_, rfl⟩
    have hK2l : K2.length ≤ 78 := by rw [hK2, List.length_append]; have := hRl ins.length; omega
    rw [← hK2] at e3
    have hK2H : Hid (K2 = K ++ refP ins ins.length) := hK2
    clear hK2 hRl hI hIr
    repeat' (first | (refine KT.run _ ?_) | (refine AWp.seqH fun KC => ?_) | (refine AWp.block ?_) | (refine AWp.region ?_) | (refine AWp.exit ?_) | (refine AWp.condB ?_) | (simp only [bse, wk, tys, storeH_ptr, Nat.reduceEqDiff, ↓reduceIte, reduceCtorEq, Nat.reduceAdd, Nat.reduceLeDiff, Int.reduceBEq, Int.reduceLT, Int.reduceLE, Int.reduceEq, ne_eq, not_false_eq_true, Nat.reduceMul, refE_val, refE_sz, outE_val, outE_sz, txE_val, txE_sz, ruleE_val, ruleE_sz, *]))
    have hini : Value.string (bs K2) = .string (bs (K2 ++ outP outs 0)) := by simp [outP, Lib.joinTail]
    refine AWp.loopH [61, 62, 63, 64, 65, 66, 67, 70, 71, 72, 73, 74, 75, 76, 77, 78, 79, 80, 81, 82, 83, 84, 85, 86, 87, 88, 89, 90, 91, 92, 3, 68, 69, 6] (fun m e' H' => ∃ k : Nat, k ≤ outs.length ∧ m = outs.length - k ∧ e' 6 = .int .i64 k ∧ e' 3 = .string (bs (K2 ++ outP outs k)) ∧ H' = [⟨9, 1, [.string ⟨#[112, 97, 121]⟩, .string ⟨#[106, 111, 105, 110, 32]⟩, .string ⟨#[108, 101, 97, 118, 101, 32]⟩], 0, true⟩]) outs.length ⟨0, by omega, by omega, rfl, (by simp only [put, reduceCtorEq, Option.some.injEq, Nat.reduceEqDiff, if_false]; rw [e3]; exact hini), rfl⟩ ?_
    rintro m e' H' hA ⟨k, hk, rfl, e6, e3, rfl⟩ hJ
    have a0 := hA 0 rfl; have a2 := hA 2 rfl; try simp only [bse, wk, tys, storeH_ptr, Nat.reduceEqDiff, ↓reduceIte, reduceCtorEq, Nat.reduceAdd, Nat.reduceLeDiff, Int.reduceBEq, Int.reduceLT, Int.reduceLE, Int.reduceEq, ne_eq, not_false_eq_true, Nat.reduceMul] at a0 a2; clear hA
    clear hini
    by_cases hlt : k < outs.length
    · have hlt' : (k : Int) < (outs.length : Int) := by omega
      have hw := wr_succ (k := k) (by omega)
      have hx := hO outs[k] (List.getElem_mem hlt)
      have hd1 := spec_digits outs[k].value (by omega) (by omega)
      have hrt := (spec_l2Text outs[k].rule hx.2).more (outE.flat (outs.drop (k + 1)))
      simp only [List.cons_append, List.nil_append] at hrt
      have q2 := ruleT_len 32 hx.2
      have q3 := ruleT_len 95 hx.2
      have hsw : PCalls Tryz.prog 80 [.string (bs (ruleT 32 outs[k].rule)), .int .u8 32, .int .u8 95] (.string (bs (ruleT 95 outs[k].rule))) := by
        have := spec_l3Swap (ruleT 32 outs[k].rule) (by omega) 32 95
        rw [swap_rule _ hx.2] at this
        exact this
      have q1 := itoa_len7 (x := outs[k].value) (by omega) (by omega)
      have hsn := outP_snoc outs k hlt
      have hXl : (K2 ++ outP outs k).length ≤ 280 := by rw [List.length_append]; have := hOl k; omega
      obtain ⟨X, hX⟩ : ∃ X, X = K2 ++ outP outs k := ⟨_, rfl⟩
      obtain ⟨Y, hY⟩ : ∃ Y, Y = X ++ [32] := ⟨_, rfl⟩
      obtain ⟨Z, hZ⟩ : ∃ Z, Z = Y ++ Lib.itoa outs[k].value := ⟨_, rfl⟩
      obtain ⟨V, hV⟩ : ∃ V, V = Z ++ [61] := ⟨_, rfl⟩
      have hE : V ++ ruleT 95 outs[k].rule = K2 ++ outP outs (k + 1) := by rw [hsn, hV, hZ, hY, hX]; unfold outT; simp only [List.append_assoc]
      rw [← hX] at hXl e3
      have lY : Y.length ≤ 281 := by rw [hY, List.length_append]; simp only [List.length_cons, List.length_nil]; omega
      have lZ : Z.length ≤ 288 := by rw [hZ, List.length_append]; omega
      have lV : V.length ≤ 289 := by rw [hV, List.length_append]; simp only [List.length_cons, List.length_nil]; omega
      have b1 : ∀ xo yo, binS Tryz.prog .add 9 xo yo (.string (bs X)) (.string ⟨#[32]⟩) = some (.string (bs Y)) := fun xo yo => by rw [hY]; exact bin_sadd _ _ _ X [32] (by simp only [List.length_cons, List.length_nil]; omega)
      have b2 : ∀ xo yo, binS Tryz.prog .add 9 xo yo (.string (bs Y)) (.string (bs (Lib.itoa outs[k].value))) = some (.string (bs Z)) := fun xo yo => by rw [hZ]; exact bin_sadd _ _ _ Y (Lib.itoa outs[k].value) (by omega)
      have b3 : ∀ xo yo, binS Tryz.prog .add 9 xo yo (.string (bs Z)) (.string ⟨#[61]⟩) = some (.string (bs V)) := fun xo yo => by rw [hV]; exact bin_sadd _ _ _ Z [61] (by simp only [List.length_cons, List.length_nil]; omega)
      have b4 : ∀ xo yo, binS Tryz.prog .add 9 xo yo (.string (bs V)) (.string (bs (ruleT 95 outs[k].rule))) = some (.string (bs (K2 ++ outP outs (k + 1)))) := fun xo yo => by rw [← hE]; exact bin_sadd _ _ _ V (ruleT 95 outs[k].rule) (by omega)
      clear hX hY hZ hV hE hsn lY lZ lV hXl q1 q2 q3 hO hOr hOl hx
      repeat' (first | (refine AWp.quiet (id := 14) (by kernel_rfl) (by kernel_rfl) ?_) | (refine qcall_start ?_; first | (refine qcallFi (hd1) rfl ?_ ?_; (focus ((first | exact rfl | (simp [pureV, flatV, refE_val, refE_sz, outE_val, outE_sz, txE_val, txE_sz, ruleE_val, ruleE_sz]; done))))) | (refine qcallFi (hrt) rfl ?_ ?_; (focus ((first | exact rfl | (simp [pureV, flatV, refE_val, refE_sz, outE_val, outE_sz, txE_val, txE_sz, ruleE_val, ruleE_sz]; done))))) | (refine qcallFi (hsw) rfl ?_ ?_; (focus ((first | exact rfl | (simp [pureV, flatV, refE_val, refE_sz, outE_val, outE_sz, txE_val, txE_sz, ruleE_val, ruleE_sz]; done)))))) | (refine KQ.run _ ?_) | (refine KT.run _ ?_) | (refine AWp.seqH fun KC => ?_) | (refine AWp.block ?_) | (refine AWp.region ?_) | (refine AWp.skip ?_) | (refine qops_callH rfl fun kC => ?_) | (refine AWp.condB ?_) | (simp only [bse, wk, tys, storeH_ptr, Nat.reduceEqDiff, ↓reduceIte, reduceCtorEq, Nat.reduceAdd, Nat.reduceLeDiff, Int.reduceBEq, Int.reduceLT, Int.reduceLE, Int.reduceEq, ne_eq, not_false_eq_true, Nat.reduceMul, refE_val, refE_sz, outE_val, outE_sz, txE_val, txE_sz, ruleE_val, ruleE_sz, *]))
      exact hJ.out _ _ ⟨outs.length - (k + 1), by omega, k + 1, by omega, rfl, rfl, by simp [put], rfl⟩ (by repeat (first | exact Agree.refl _ _ | assumption | refine Agree.put ?_ rfl _))
    · have hlt' : ¬ (k : Int) < (outs.length : Int) := by omega
      have hke : k = outs.length := by omega
      subst hke
      have e3H : e' 3 = .string (bs (K ++ refP ins ins.length ++ outP outs outs.length)) := by rw [e3, hK2H.out]
      repeat' (first | (refine KT.run _ ?_) | (refine AWp.seqH fun KC => ?_) | (refine AWp.region ?_) | (refine AWp.ret ?_) | (refine AWp.exit ?_) | (refine AWp.condB ?_) | (simp only [bse, wk, tys, storeH_ptr, Nat.reduceEqDiff, ↓reduceIte, reduceCtorEq, Nat.reduceAdd, Nat.reduceLeDiff, Int.reduceBEq, Int.reduceLT, Int.reduceLE, Int.reduceEq, ne_eq, not_false_eq_true, Nat.reduceMul, refE_val, refE_sz, outE_val, outE_sz, txE_val, txE_sz, ruleE_val, ruleE_sz, *]))
      all_goals (rw [hK2H.out, List.append_assoc])
theorem l3Text1 (member : Int) (ins : List TRef) (outs : List TOut) (h0 : txFault ⟨1, member, ins, outs⟩ = 0) :
    PCalls Tryz.prog 82 [ip [.int .i64 1, .int .i64 member, islE refE ins, islE outE outs]] (.string (bs (txT ⟨1, member, ins, outs⟩))) := by
  obtain ⟨_, hkm, hm, hi, ho, hI, hO⟩ := tx_bounds h0
  dsimp only at *
  clear h0
  have hIr : ∀ x ∈ ins, (refT x).length ≤ 15 := fun x hx => by
    have := hI x hx; have q1 := itoa_len7 (x := x.tx) (by omega) (by omega); have q2 := itoa_len7 (x := x.at') (by omega) (by omega); unfold refT; simp; omega
  have hOr : ∀ x ∈ outs, (outT x).length ≤ 48 := fun x hx => by
    have := hO x hx; have q1 := itoa_len7 (x := x.value) (by omega) (by omega); have q2 := ruleT_len 95 this.2; unfold outT; simp; omega
  have hRl := refP_len ins hIr (by omega)
  have hOl := outP_len outs hOr (by omega)
  have hmd := spec_digits member (by omega) (by omega)
  have hml := itoa_len7 (x := member) (by omega) (by omega)
  obtain ⟨K, hK⟩ : ∃ K, K = ([106, 111, 105, 110, 32] : List UInt8) ++ Lib.itoa member := ⟨_, rfl⟩
  have hKl : K.length ≤ 13 := by rw [hK]; simp; omega
  have hT : txT ⟨1, member, ins, outs⟩ = K ++ refP ins ins.length ++ outP outs outs.length := by
    unfold txT txW refP outP
    rw [hK, if_neg (show ¬ ins.length = 0 by omega), List.take_length, List.take_length]
    generalize Lib.join (ins.map refT) [43] = R
    simp [kindT, Lib.join_cons, Lib.joinTail]
  rw [hT]
  clear hT
  have k1 : ∀ xo yo, binS Tryz.prog .add 9 xo yo (.string ⟨#[106, 111, 105, 110, 32]⟩) (.string (bs (Lib.itoa member))) = some (.string (bs K)) := fun xo yo => by
    rw [hK]; exact bin_sadd _ _ _ [106, 111, 105, 110, 32] (Lib.itoa member) (by simp; omega)
  have g3 : (1 : Int) < ((3 : Nat) : Int) := by decide
  have g4 : Int.toNat 1 = 1 := rfl
  clear hK hml hkm
  refine PCalls.flat rfl ?_; refine ACalls.enter (n := 94) (rs := [.tmp 2]) Tryz.func82 rfl rfl rfl (by kernel_rfl) (by kernel_rfl) (by kernel_rfl) (Nat.le_of_ble_eq_true rfl) ?_
  repeat' (first | (refine ACalls.start ?_; first | (refine ACalls.ofJi (hmd) rfl ?_)) | (refine KV.run _ ?_) | (refine KT.run _ ?_) | (refine AWp.seqH fun KC => ?_) | (refine AWp.block ?_) | (refine AWp.region ?_) | (refine aops_callH rfl fun kC => ?_) | (refine AWp.condB ?_) | (simp only [bse, wk, tys, storeH_ptr, Nat.reduceEqDiff, ↓reduceIte, reduceCtorEq, Nat.reduceAdd, Nat.reduceLeDiff, Int.reduceBEq, Int.reduceLT, Int.reduceLE, Int.reduceEq, ne_eq, not_false_eq_true, Nat.reduceMul, refE_val, refE_sz, outE_val, outE_sz, txE_val, txE_sz, ruleE_val, ruleE_sz, *]))
  have hini : Value.string (bs K) = .string (bs (K ++ refP ins 0)) := by simp [refP]
  refine AWp.loopH [26, 27, 28, 29, 30, 31, 32, 5, 35, 36, 37, 38, 39, 40, 41, 42, 43, 44, 45, 46, 47, 48, 49, 50, 51, 52, 53, 54, 55, 56, 57, 58, 59, 60, 3, 33, 34, 4] (fun m e' H' => ∃ k : Nat, k ≤ ins.length ∧ m = ins.length - k ∧ e' 4 = .int .i64 k ∧ e' 3 = .string (bs (K ++ refP ins k)) ∧ H' = [⟨9, 1, [.string ⟨#[112, 97, 121]⟩, .string ⟨#[106, 111, 105, 110, 32]⟩, .string ⟨#[108, 101, 97, 118, 101, 32]⟩], 0, true⟩]) ins.length ⟨0, by omega, by omega, rfl, hini, rfl⟩ ?_
  rintro m e' H' hA ⟨k, hk, rfl, e4, e3, rfl⟩ hJ
  have a0 := hA 0 rfl; have a2 := hA 2 rfl; try simp only [bse, wk, tys, storeH_ptr, Nat.reduceEqDiff, ↓reduceIte, reduceCtorEq, Nat.reduceAdd, Nat.reduceLeDiff, Int.reduceBEq, Int.reduceLT, Int.reduceLE, Int.reduceEq, ne_eq, not_false_eq_true, Nat.reduceMul] at a0 a2; clear hA
  clear hini g3 g4 hmd k1
  by_cases hlt : k < ins.length
  · have hlt' : (k : Int) < (ins.length : Int) := by omega
    have hw := wr_succ (k := k) (by omega)
    have hx := hI ins[k] (List.getElem_mem hlt)
    have hd1 := spec_digits ins[k].tx (by omega) (by omega)
    have hd2 := spec_digits ins[k].at' (by omega) (by omega)
    have q1 := itoa_len7 (x := ins[k].tx) (by omega) (by omega)
    have q2 := itoa_len7 (x := ins[k].at') (by omega) (by omega)
    have hsn := refP_snoc ins k hlt
    have hXl : (K ++ refP ins k).length ≤ 78 := by rw [List.length_append]; have := hRl k; omega
    clear hI hO hIr hOr hRl hOl hx
    by_cases hk0 : k = 0
    · have hk1 : ((k : Int) == 0) = true := by simp; omega
      rw [if_pos hk0] at hsn
      obtain ⟨X, hX⟩ : ∃ X, X = K ++ refP ins k := ⟨_, rfl⟩
      obtain ⟨Y, hY⟩ : ∃ Y, Y = X ++ [32] := ⟨_, rfl⟩
      obtain ⟨Z, hZ⟩ : ∃ Z, Z = Y ++ Lib.itoa ins[k].tx := ⟨_, rfl⟩
      obtain ⟨V, hV⟩ : ∃ V, V = Z ++ [58] := ⟨_, rfl⟩
      have hE : V ++ Lib.itoa ins[k].at' = K ++ refP ins (k + 1) := by rw [hsn, hV, hZ, hY, hX]; unfold refT; simp only [List.append_assoc]
      rw [← hX] at hXl e3
      have lY : Y.length ≤ 79 := by rw [hY, List.length_append]; simp only [List.length_cons, List.length_nil]; omega
      have lZ : Z.length ≤ 86 := by rw [hZ, List.length_append]; omega
      have lV : V.length ≤ 87 := by rw [hV, List.length_append]; simp only [List.length_cons, List.length_nil]; omega
      have b1 : ∀ xo yo, binS Tryz.prog .add 9 xo yo (.string (bs X)) (.string ⟨#[32]⟩) = some (.string (bs Y)) := fun xo yo => by rw [hY]; exact bin_sadd _ _ _ X [32] (by simp only [List.length_cons, List.length_nil]; omega)
      have b2 : ∀ xo yo, binS Tryz.prog .add 9 xo yo (.string (bs Y)) (.string (bs (Lib.itoa ins[k].tx))) = some (.string (bs Z)) := fun xo yo => by rw [hZ]; exact bin_sadd _ _ _ Y (Lib.itoa ins[k].tx) (by omega)
      have b3 : ∀ xo yo, binS Tryz.prog .add 9 xo yo (.string (bs Z)) (.string ⟨#[58]⟩) = some (.string (bs V)) := fun xo yo => by rw [hV]; exact bin_sadd _ _ _ Z [58] (by simp only [List.length_cons, List.length_nil]; omega)
      have b4 : ∀ xo yo, binS Tryz.prog .add 9 xo yo (.string (bs V)) (.string (bs (Lib.itoa ins[k].at'))) = some (.string (bs (K ++ refP ins (k + 1)))) := fun xo yo => by rw [← hE]; exact bin_sadd _ _ _ V (Lib.itoa ins[k].at') (by omega)
      clear hX hY hZ hV hE hsn lY lZ lV hXl hk0 q1 q2
      repeat' (first | (refine AWp.quiet (id := 10) (by kernel_rfl) (by kernel_rfl) ?_) | (refine qcall_start ?_; first | (refine qcallFi (hd1) rfl ?_ ?_; (focus ((first | exact rfl | (simp [pureV, flatV, refE_val, refE_sz, outE_val, outE_sz, txE_val, txE_sz, ruleE_val, ruleE_sz]; done))))) | (refine qcallFi (hd2) rfl ?_ ?_; (focus ((first | exact rfl | (simp [pureV, flatV, refE_val, refE_sz, outE_val, outE_sz, txE_val, txE_sz, ruleE_val, ruleE_sz]; done)))))) | (refine KQ.run _ ?_) | (refine KT.run _ ?_) | (refine AWp.seqH fun KC => ?_) | (refine AWp.block ?_) | (refine AWp.region ?_) | (refine AWp.skip ?_) | (refine qops_callH rfl fun kC => ?_) | (refine AWp.condB ?_) | (simp only [bse, wk, tys, storeH_ptr, Nat.reduceEqDiff, ↓reduceIte, reduceCtorEq, Nat.reduceAdd, Nat.reduceLeDiff, Int.reduceBEq, Int.reduceLT, Int.reduceLE, Int.reduceEq, ne_eq, not_false_eq_true, Nat.reduceMul, refE_val, refE_sz, outE_val, outE_sz, txE_val, txE_sz, ruleE_val, ruleE_sz, *]))
      exact hJ.out _ _ ⟨ins.length - (k + 1), by omega, k + 1, by omega, rfl, rfl, by simp [put], rfl⟩ (by repeat (first | exact Agree.refl _ _ | assumption | refine Agree.put ?_ rfl _))
    · have hk1 : ((k : Int) == 0) = false := by simp; omega
      rw [if_neg hk0] at hsn
      obtain ⟨X, hX⟩ : ∃ X, X = K ++ refP ins k := ⟨_, rfl⟩
      obtain ⟨Y, hY⟩ : ∃ Y, Y = X ++ [43] := ⟨_, rfl⟩
      obtain ⟨Z, hZ⟩ : ∃ Z, Z = Y ++ Lib.itoa ins[k].tx := ⟨_, rfl⟩
      obtain ⟨V, hV⟩ : ∃ V, V = Z ++ [58] := ⟨_, rfl⟩
      have hE : V ++ Lib.itoa ins[k].at' = K ++ refP ins (k + 1) := by rw [hsn, hV, hZ, hY, hX]; unfold refT; simp only [List.append_assoc]
      rw [← hX] at hXl e3
      have lY : Y.length ≤ 79 := by rw [hY, List.length_append]; simp only [List.length_cons, List.length_nil]; omega
      have lZ : Z.length ≤ 86 := by rw [hZ, List.length_append]; omega
      have lV : V.length ≤ 87 := by rw [hV, List.length_append]; simp only [List.length_cons, List.length_nil]; omega
      have b1 : ∀ xo yo, binS Tryz.prog .add 9 xo yo (.string (bs X)) (.string ⟨#[43]⟩) = some (.string (bs Y)) := fun xo yo => by rw [hY]; exact bin_sadd _ _ _ X [43] (by simp only [List.length_cons, List.length_nil]; omega)
      have b2 : ∀ xo yo, binS Tryz.prog .add 9 xo yo (.string (bs Y)) (.string (bs (Lib.itoa ins[k].tx))) = some (.string (bs Z)) := fun xo yo => by rw [hZ]; exact bin_sadd _ _ _ Y (Lib.itoa ins[k].tx) (by omega)
      have b3 : ∀ xo yo, binS Tryz.prog .add 9 xo yo (.string (bs Z)) (.string ⟨#[58]⟩) = some (.string (bs V)) := fun xo yo => by rw [hV]; exact bin_sadd _ _ _ Z [58] (by simp only [List.length_cons, List.length_nil]; omega)
      have b4 : ∀ xo yo, binS Tryz.prog .add 9 xo yo (.string (bs V)) (.string (bs (Lib.itoa ins[k].at'))) = some (.string (bs (K ++ refP ins (k + 1)))) := fun xo yo => by rw [← hE]; exact bin_sadd _ _ _ V (Lib.itoa ins[k].at') (by omega)
      clear hX hY hZ hV hE hsn lY lZ lV hXl hk0 q1 q2
      repeat' (first | (refine AWp.quiet (id := 10) (by kernel_rfl) (by kernel_rfl) ?_) | (refine qcall_start ?_; first | (refine qcallFi (hd1) rfl ?_ ?_; (focus ((first | exact rfl | (simp [pureV, flatV, refE_val, refE_sz, outE_val, outE_sz, txE_val, txE_sz, ruleE_val, ruleE_sz]; done))))) | (refine qcallFi (hd2) rfl ?_ ?_; (focus ((first | exact rfl | (simp [pureV, flatV, refE_val, refE_sz, outE_val, outE_sz, txE_val, txE_sz, ruleE_val, ruleE_sz]; done)))))) | (refine KQ.run _ ?_) | (refine KT.run _ ?_) | (refine AWp.seqH fun KC => ?_) | (refine AWp.block ?_) | (refine AWp.region ?_) | (refine AWp.skip ?_) | (refine qops_callH rfl fun kC => ?_) | (refine AWp.condB ?_) | (simp only [bse, wk, tys, storeH_ptr, Nat.reduceEqDiff, ↓reduceIte, reduceCtorEq, Nat.reduceAdd, Nat.reduceLeDiff, Int.reduceBEq, Int.reduceLT, Int.reduceLE, Int.reduceEq, ne_eq, not_false_eq_true, Nat.reduceMul, refE_val, refE_sz, outE_val, outE_sz, txE_val, txE_sz, ruleE_val, ruleE_sz, *]))
      exact hJ.out _ _ ⟨ins.length - (k + 1), by omega, k + 1, by omega, rfl, rfl, by simp [put], rfl⟩ (by repeat (first | exact Agree.refl _ _ | assumption | refine Agree.put ?_ rfl _))
  · have hlt' : ¬ (k : Int) < (ins.length : Int) := by omega
    have hke : k = ins.length := by omega
    subst hke
    obtain ⟨K2, hK2⟩ : ∃ K2, K2 = K ++ refP ins ins.length := ⟨_, rfl⟩
    have hK2l : K2.length ≤ 78 := by rw [hK2, List.length_append]; have := hRl ins.length; omega
    rw [← hK2] at e3
    have hK2H : Hid (K2 = K ++ refP ins ins.length) := hK2
    clear hK2 hRl hI hIr
    repeat' (first | (refine KT.run _ ?_) | (refine AWp.seqH fun KC => ?_) | (refine AWp.block ?_) | (refine AWp.region ?_) | (refine AWp.exit ?_) | (refine AWp.condB ?_) | (simp only [bse, wk, tys, storeH_ptr, Nat.reduceEqDiff, ↓reduceIte, reduceCtorEq, Nat.reduceAdd, Nat.reduceLeDiff, Int.reduceBEq, Int.reduceLT, Int.reduceLE, Int.reduceEq, ne_eq, not_false_eq_true, Nat.reduceMul, refE_val, refE_sz, outE_val, outE_sz, txE_val, txE_sz, ruleE_val, ruleE_sz, *]))
    have hini : Value.string (bs K2) = .string (bs (K2 ++ outP outs 0)) := by simp [outP, Lib.joinTail]
    refine AWp.loopH [61, 62, 63, 64, 65, 66, 67, 70, 71, 72, 73, 74, 75, 76, 77, 78, 79, 80, 81, 82, 83, 84, 85, 86, 87, 88, 89, 90, 91, 92, 3, 68, 69, 6] (fun m e' H' => ∃ k : Nat, k ≤ outs.length ∧ m = outs.length - k ∧ e' 6 = .int .i64 k ∧ e' 3 = .string (bs (K2 ++ outP outs k)) ∧ H' = [⟨9, 1, [.string ⟨#[112, 97, 121]⟩, .string ⟨#[106, 111, 105, 110, 32]⟩, .string ⟨#[108, 101, 97, 118, 101, 32]⟩], 0, true⟩]) outs.length ⟨0, by omega, by omega, rfl, (by simp only [put, reduceCtorEq, Option.some.injEq, Nat.reduceEqDiff, if_false]; rw [e3]; exact hini), rfl⟩ ?_
    rintro m e' H' hA ⟨k, hk, rfl, e6, e3, rfl⟩ hJ
    have a0 := hA 0 rfl; have a2 := hA 2 rfl; try simp only [bse, wk, tys, storeH_ptr, Nat.reduceEqDiff, ↓reduceIte, reduceCtorEq, Nat.reduceAdd, Nat.reduceLeDiff, Int.reduceBEq, Int.reduceLT, Int.reduceLE, Int.reduceEq, ne_eq, not_false_eq_true, Nat.reduceMul] at a0 a2; clear hA
    clear hini
    by_cases hlt : k < outs.length
    · have hlt' : (k : Int) < (outs.length : Int) := by omega
      have hw := wr_succ (k := k) (by omega)
      have hx := hO outs[k] (List.getElem_mem hlt)
      have hd1 := spec_digits outs[k].value (by omega) (by omega)
      have hrt := (spec_l2Text outs[k].rule hx.2).more (outE.flat (outs.drop (k + 1)))
      simp only [List.cons_append, List.nil_append] at hrt
      have q2 := ruleT_len 32 hx.2
      have q3 := ruleT_len 95 hx.2
      have hsw : PCalls Tryz.prog 80 [.string (bs (ruleT 32 outs[k].rule)), .int .u8 32, .int .u8 95] (.string (bs (ruleT 95 outs[k].rule))) := by
        have := spec_l3Swap (ruleT 32 outs[k].rule) (by omega) 32 95
        rw [swap_rule _ hx.2] at this
        exact this
      have q1 := itoa_len7 (x := outs[k].value) (by omega) (by omega)
      have hsn := outP_snoc outs k hlt
      have hXl : (K2 ++ outP outs k).length ≤ 280 := by rw [List.length_append]; have := hOl k; omega
      obtain ⟨X, hX⟩ : ∃ X, X = K2 ++ outP outs k := ⟨_, rfl⟩
      obtain ⟨Y, hY⟩ : ∃ Y, Y = X ++ [32] := ⟨_, rfl⟩
      obtain ⟨Z, hZ⟩ : ∃ Z, Z = Y ++ Lib.itoa outs[k].value := ⟨_, rfl⟩
      obtain ⟨V, hV⟩ : ∃ V, V = Z ++ [61] := ⟨_, rfl⟩
      have hE : V ++ ruleT 95 outs[k].rule = K2 ++ outP outs (k + 1) := by rw [hsn, hV, hZ, hY, hX]; unfold outT; simp only [List.append_assoc]
      rw [← hX] at hXl e3
      have lY : Y.length ≤ 281 := by rw [hY, List.length_append]; simp only [List.length_cons, List.length_nil]; omega
      have lZ : Z.length ≤ 288 := by rw [hZ, List.length_append]; omega
      have lV : V.length ≤ 289 := by rw [hV, List.length_append]; simp only [List.length_cons, List.length_nil]; omega
      have b1 : ∀ xo yo, binS Tryz.prog .add 9 xo yo (.string (bs X)) (.string ⟨#[32]⟩) = some (.string (bs Y)) := fun xo yo => by rw [hY]; exact bin_sadd _ _ _ X [32] (by simp only [List.length_cons, List.length_nil]; omega)
      have b2 : ∀ xo yo, binS Tryz.prog .add 9 xo yo (.string (bs Y)) (.string (bs (Lib.itoa outs[k].value))) = some (.string (bs Z)) := fun xo yo => by rw [hZ]; exact bin_sadd _ _ _ Y (Lib.itoa outs[k].value) (by omega)
      have b3 : ∀ xo yo, binS Tryz.prog .add 9 xo yo (.string (bs Z)) (.string ⟨#[61]⟩) = some (.string (bs V)) := fun xo yo => by rw [hV]; exact bin_sadd _ _ _ Z [61] (by simp only [List.length_cons, List.length_nil]; omega)
      have b4 : ∀ xo yo, binS Tryz.prog .add 9 xo yo (.string (bs V)) (.string (bs (ruleT 95 outs[k].rule))) = some (.string (bs (K2 ++ outP outs (k + 1)))) := fun xo yo => by rw [← hE]; exact bin_sadd _ _ _ V (ruleT 95 outs[k].rule) (by omega)
      clear hX hY hZ hV hE hsn lY lZ lV hXl q1 q2 q3 hO hOr hOl hx
      repeat' (first | (refine AWp.quiet (id := 14) (by kernel_rfl) (by kernel_rfl) ?_) | (refine qcall_start ?_; first | (refine qcallFi (hd1) rfl ?_ ?_; (focus ((first | exact rfl | (simp [pureV, flatV, refE_val, refE_sz, outE_val, outE_sz, txE_val, txE_sz, ruleE_val, ruleE_sz]; done))))) | (refine qcallFi (hrt) rfl ?_ ?_; (focus ((first | exact rfl | (simp [pureV, flatV, refE_val, refE_sz, outE_val, outE_sz, txE_val, txE_sz, ruleE_val, ruleE_sz]; done))))) | (refine qcallFi (hsw) rfl ?_ ?_; (focus ((first | exact rfl | (simp [pureV, flatV, refE_val, refE_sz, outE_val, outE_sz, txE_val, txE_sz, ruleE_val, ruleE_sz]; done)))))) | (refine KQ.run _ ?_) | (refine KT.run _ ?_) | (refine AWp.seqH fun KC => ?_) | (refine AWp.block ?_) | (refine AWp.region ?_) | (refine AWp.skip ?_) | (refine qops_callH rfl fun kC => ?_) | (refine AWp.condB ?_) | (simp only [bse, wk, tys, storeH_ptr, Nat.reduceEqDiff, ↓reduceIte, reduceCtorEq, Nat.reduceAdd, Nat.reduceLeDiff, Int.reduceBEq, Int.reduceLT, Int.reduceLE, Int.reduceEq, ne_eq, not_false_eq_true, Nat.reduceMul, refE_val, refE_sz, outE_val, outE_sz, txE_val, txE_sz, ruleE_val, ruleE_sz, *]))
      exact hJ.out _ _ ⟨outs.length - (k + 1), by omega, k + 1, by omega, rfl, rfl, by simp [put], rfl⟩ (by repeat (first | exact Agree.refl _ _ | assumption | refine Agree.put ?_ rfl _))
    · have hlt' : ¬ (k : Int) < (outs.length : Int) := by omega
      have hke : k = outs.length := by omega
      subst hke
      have e3H : e' 3 = .string (bs (K ++ refP ins ins.length ++ outP outs outs.length)) := by rw [e3, hK2H.out]
      repeat' (first | (refine KT.run _ ?_) | (refine AWp.seqH fun KC => ?_) | (refine AWp.region ?_) | (refine AWp.ret ?_) | (refine AWp.exit ?_) | (refine AWp.condB ?_) | (simp only [bse, wk, tys, storeH_ptr, Nat.reduceEqDiff, ↓reduceIte, reduceCtorEq, Nat.reduceAdd, Nat.reduceLeDiff, Int.reduceBEq, Int.reduceLT, Int.reduceLE, Int.reduceEq, ne_eq, not_false_eq_true, Nat.reduceMul, refE_val, refE_sz, outE_val, outE_sz, txE_val, txE_sz, ruleE_val, ruleE_sz, *]))
      all_goals (rw [hK2H.out, List.append_assoc])
theorem l3Text2 (member : Int) (ins : List TRef) (outs : List TOut) (h0 : txFault ⟨2, member, ins, outs⟩ = 0) :
    PCalls Tryz.prog 82 [ip [.int .i64 2, .int .i64 member, islE refE ins, islE outE outs]] (.string (bs (txT ⟨2, member, ins, outs⟩))) := by
  obtain ⟨_, hkm, hm, hi, ho, hI, hO⟩ := tx_bounds h0
  dsimp only at *
  clear h0
  have hIr : ∀ x ∈ ins, (refT x).length ≤ 15 := fun x hx => by
    have := hI x hx; have q1 := itoa_len7 (x := x.tx) (by omega) (by omega); have q2 := itoa_len7 (x := x.at') (by omega) (by omega); unfold refT; simp; omega
  have hOr : ∀ x ∈ outs, (outT x).length ≤ 48 := fun x hx => by
    have := hO x hx; have q1 := itoa_len7 (x := x.value) (by omega) (by omega); have q2 := ruleT_len 95 this.2; unfold outT; simp; omega
  have hRl := refP_len ins hIr (by omega)
  have hOl := outP_len outs hOr (by omega)
  have hmd := spec_digits member (by omega) (by omega)
  have hml := itoa_len7 (x := member) (by omega) (by omega)
  obtain ⟨K, hK⟩ : ∃ K, K = ([108, 101, 97, 118, 101, 32] : List UInt8) ++ Lib.itoa member := ⟨_, rfl⟩
  have hKl : K.length ≤ 13 := by rw [hK]; simp; omega
  have hT : txT ⟨2, member, ins, outs⟩ = K ++ refP ins ins.length ++ outP outs outs.length := by
    unfold txT txW refP outP
    rw [hK, if_neg (show ¬ ins.length = 0 by omega), List.take_length, List.take_length]
    generalize Lib.join (ins.map refT) [43] = R
    simp [kindT, Lib.join_cons, Lib.joinTail]
  rw [hT]
  clear hT
  have k1 : ∀ xo yo, binS Tryz.prog .add 9 xo yo (.string ⟨#[108, 101, 97, 118, 101, 32]⟩) (.string (bs (Lib.itoa member))) = some (.string (bs K)) := fun xo yo => by
    rw [hK]; exact bin_sadd _ _ _ [108, 101, 97, 118, 101, 32] (Lib.itoa member) (by simp; omega)
  have g3 : (2 : Int) < ((3 : Nat) : Int) := by decide
  have g4 : Int.toNat 2 = 2 := rfl
  clear hK hml hkm
  refine PCalls.flat rfl ?_; refine ACalls.enter (n := 94) (rs := [.tmp 2]) Tryz.func82 rfl rfl rfl (by kernel_rfl) (by kernel_rfl) (by kernel_rfl) (Nat.le_of_ble_eq_true rfl) ?_
  repeat' (first | (refine ACalls.start ?_; first | (refine ACalls.ofJi (hmd) rfl ?_)) | (refine KV.run _ ?_) | (refine KT.run _ ?_) | (refine AWp.seqH fun KC => ?_) | (refine AWp.block ?_) | (refine AWp.region ?_) | (refine aops_callH rfl fun kC => ?_) | (refine AWp.condB ?_) | (simp only [bse, wk, tys, storeH_ptr, Nat.reduceEqDiff, ↓reduceIte, reduceCtorEq, Nat.reduceAdd, Nat.reduceLeDiff, Int.reduceBEq, Int.reduceLT, Int.reduceLE, Int.reduceEq, ne_eq, not_false_eq_true, Nat.reduceMul, refE_val, refE_sz, outE_val, outE_sz, txE_val, txE_sz, ruleE_val, ruleE_sz, *]))
  have hini : Value.string (bs K) = .string (bs (K ++ refP ins 0)) := by simp [refP]
  refine AWp.loopH [26, 27, 28, 29, 30, 31, 32, 5, 35, 36, 37, 38, 39, 40, 41, 42, 43, 44, 45, 46, 47, 48, 49, 50, 51, 52, 53, 54, 55, 56, 57, 58, 59, 60, 3, 33, 34, 4] (fun m e' H' => ∃ k : Nat, k ≤ ins.length ∧ m = ins.length - k ∧ e' 4 = .int .i64 k ∧ e' 3 = .string (bs (K ++ refP ins k)) ∧ H' = [⟨9, 1, [.string ⟨#[112, 97, 121]⟩, .string ⟨#[106, 111, 105, 110, 32]⟩, .string ⟨#[108, 101, 97, 118, 101, 32]⟩], 0, true⟩]) ins.length ⟨0, by omega, by omega, rfl, hini, rfl⟩ ?_
  rintro m e' H' hA ⟨k, hk, rfl, e4, e3, rfl⟩ hJ
  have a0 := hA 0 rfl; have a2 := hA 2 rfl; try simp only [bse, wk, tys, storeH_ptr, Nat.reduceEqDiff, ↓reduceIte, reduceCtorEq, Nat.reduceAdd, Nat.reduceLeDiff, Int.reduceBEq, Int.reduceLT, Int.reduceLE, Int.reduceEq, ne_eq, not_false_eq_true, Nat.reduceMul] at a0 a2; clear hA
  clear hini g3 g4 hmd k1
  by_cases hlt : k < ins.length
  · have hlt' : (k : Int) < (ins.length : Int) := by omega
    have hw := wr_succ (k := k) (by omega)
    have hx := hI ins[k] (List.getElem_mem hlt)
    have hd1 := spec_digits ins[k].tx (by omega) (by omega)
    have hd2 := spec_digits ins[k].at' (by omega) (by omega)
    have q1 := itoa_len7 (x := ins[k].tx) (by omega) (by omega)
    have q2 := itoa_len7 (x := ins[k].at') (by omega) (by omega)
    have hsn := refP_snoc ins k hlt
    have hXl : (K ++ refP ins k).length ≤ 78 := by rw [List.length_append]; have := hRl k; omega
    clear hI hO hIr hOr hRl hOl hx
    by_cases hk0 : k = 0
    · have hk1 : ((k : Int) == 0) = true := by simp; omega
      rw [if_pos hk0] at hsn
      obtain ⟨X, hX⟩ : ∃ X, X = K ++ refP ins k := ⟨_, rfl⟩
      obtain ⟨Y, hY⟩ : ∃ Y, Y = X ++ [32] := ⟨_, rfl⟩
      obtain ⟨Z, hZ⟩ : ∃ Z, Z = Y ++ Lib.itoa ins[k].tx := ⟨_, rfl⟩
      obtain ⟨V, hV⟩ : ∃ V, V = Z ++ [58] := ⟨_, rfl⟩
      have hE : V ++ Lib.itoa ins[k].at' = K ++ refP ins (k + 1) := by rw [hsn, hV, hZ, hY, hX]; unfold refT; simp only [List.append_assoc]
      rw [← hX] at hXl e3
      have lY : Y.length ≤ 79 := by rw [hY, List.length_append]; simp only [List.length_cons, List.length_nil]; omega
      have lZ : Z.length ≤ 86 := by rw [hZ, List.length_append]; omega
      have lV : V.length ≤ 87 := by rw [hV, List.length_append]; simp only [List.length_cons, List.length_nil]; omega
      have b1 : ∀ xo yo, binS Tryz.prog .add 9 xo yo (.string (bs X)) (.string ⟨#[32]⟩) = some (.string (bs Y)) := fun xo yo => by rw [hY]; exact bin_sadd _ _ _ X [32] (by simp only [List.length_cons, List.length_nil]; omega)
      have b2 : ∀ xo yo, binS Tryz.prog .add 9 xo yo (.string (bs Y)) (.string (bs (Lib.itoa ins[k].tx))) = some (.string (bs Z)) := fun xo yo => by rw [hZ]; exact bin_sadd _ _ _ Y (Lib.itoa ins[k].tx) (by omega)
      have b3 : ∀ xo yo, binS Tryz.prog .add 9 xo yo (.string (bs Z)) (.string ⟨#[58]⟩) = some (.string (bs V)) := fun xo yo => by rw [hV]; exact bin_sadd _ _ _ Z [58] (by simp only [List.length_cons, List.length_nil]; omega)
      have b4 : ∀ xo yo, binS Tryz.prog .add 9 xo yo (.string (bs V)) (.string (bs (Lib.itoa ins[k].at'))) = some (.string (bs (K ++ refP ins (k + 1)))) := fun xo yo => by rw [← hE]; exact bin_sadd _ _ _ V (Lib.itoa ins[k].at') (by omega)
      clear hX hY hZ hV hE hsn lY lZ lV hXl hk0 q1 q2
      repeat' (first | (refine AWp.quiet (id := 10) (by kernel_rfl) (by kernel_rfl) ?_) | (refine qcall_start ?_; first | (refine qcallFi (hd1) rfl ?_ ?_; (focus ((first | exact rfl | (simp [pureV, flatV, refE_val, refE_sz, outE_val, outE_sz, txE_val, txE_sz, ruleE_val, ruleE_sz]; done))))) | (refine qcallFi (hd2) rfl ?_ ?_; (focus ((first | exact rfl | (simp [pureV, flatV, refE_val, refE_sz, outE_val, outE_sz, txE_val, txE_sz, ruleE_val, ruleE_sz]; done)))))) | (refine KQ.run _ ?_) | (refine KT.run _ ?_) | (refine AWp.seqH fun KC => ?_) | (refine AWp.block ?_) | (refine AWp.region ?_) | (refine AWp.skip ?_) | (refine qops_callH rfl fun kC => ?_) | (refine AWp.condB ?_) | (simp only [bse, wk, tys, storeH_ptr, Nat.reduceEqDiff, ↓reduceIte, reduceCtorEq, Nat.reduceAdd, Nat.reduceLeDiff, Int.reduceBEq, Int.reduceLT, Int.reduceLE, Int.reduceEq, ne_eq, not_false_eq_true, Nat.reduceMul, refE_val, refE_sz, outE_val, outE_sz, txE_val, txE_sz, ruleE_val, ruleE_sz, *]))
      exact hJ.out _ _ ⟨ins.length - (k + 1), by omega, k + 1, by omega, rfl, rfl, by simp [put], rfl⟩ (by repeat (first | exact Agree.refl _ _ | assumption | refine Agree.put ?_ rfl _))
    · have hk1 : ((k : Int) == 0) = false := by simp; omega
      rw [if_neg hk0] at hsn
      obtain ⟨X, hX⟩ : ∃ X, X = K ++ refP ins k := ⟨_, rfl⟩
      obtain ⟨Y, hY⟩ : ∃ Y, Y = X ++ [43] := ⟨_, rfl⟩
      obtain ⟨Z, hZ⟩ : ∃ Z, Z = Y ++ Lib.itoa ins[k].tx := ⟨_, rfl⟩
      obtain ⟨V, hV⟩ : ∃ V, V = Z ++ [58] := ⟨_, rfl⟩
      have hE : V ++ Lib.itoa ins[k].at' = K ++ refP ins (k + 1) := by rw [hsn, hV, hZ, hY, hX]; unfold refT; simp only [List.append_assoc]
      rw [← hX] at hXl e3
      have lY : Y.length ≤ 79 := by rw [hY, List.length_append]; simp only [List.length_cons, List.length_nil]; omega
      have lZ : Z.length ≤ 86 := by rw [hZ, List.length_append]; omega
      have lV : V.length ≤ 87 := by rw [hV, List.length_append]; simp only [List.length_cons, List.length_nil]; omega
      have b1 : ∀ xo yo, binS Tryz.prog .add 9 xo yo (.string (bs X)) (.string ⟨#[43]⟩) = some (.string (bs Y)) := fun xo yo => by rw [hY]; exact bin_sadd _ _ _ X [43] (by simp only [List.length_cons, List.length_nil]; omega)
      have b2 : ∀ xo yo, binS Tryz.prog .add 9 xo yo (.string (bs Y)) (.string (bs (Lib.itoa ins[k].tx))) = some (.string (bs Z)) := fun xo yo => by rw [hZ]; exact bin_sadd _ _ _ Y (Lib.itoa ins[k].tx) (by omega)
      have b3 : ∀ xo yo, binS Tryz.prog .add 9 xo yo (.string (bs Z)) (.string ⟨#[58]⟩) = some (.string (bs V)) := fun xo yo => by rw [hV]; exact bin_sadd _ _ _ Z [58] (by simp only [List.length_cons, List.length_nil]; omega)
      have b4 : ∀ xo yo, binS Tryz.prog .add 9 xo yo (.string (bs V)) (.string (bs (Lib.itoa ins[k].at'))) = some (.string (bs (K ++ refP ins (k + 1)))) := fun xo yo => by rw [← hE]; exact bin_sadd _ _ _ V (Lib.itoa ins[k].at') (by omega)
      clear hX hY hZ hV hE hsn lY lZ lV hXl hk0 q1 q2
      repeat' (first | (refine AWp.quiet (id := 10) (by kernel_rfl) (by kernel_rfl) ?_) | (refine qcall_start ?_; first | (refine qcallFi (hd1) rfl ?_ ?_; (focus ((first | exact rfl | (simp [pureV, flatV, refE_val, refE_sz, outE_val, outE_sz, txE_val, txE_sz, ruleE_val, ruleE_sz]; done))))) | (refine qcallFi (hd2) rfl ?_ ?_; (focus ((first | exact rfl | (simp [pureV, flatV, refE_val, refE_sz, outE_val, outE_sz, txE_val, txE_sz, ruleE_val, ruleE_sz]; done)))))) | (refine KQ.run _ ?_) | (refine KT.run _ ?_) | (refine AWp.seqH fun KC => ?_) | (refine AWp.block ?_) | (refine AWp.region ?_) | (refine AWp.skip ?_) | (refine qops_callH rfl fun kC => ?_) | (refine AWp.condB ?_) | (simp only [bse, wk, tys, storeH_ptr, Nat.reduceEqDiff, ↓reduceIte, reduceCtorEq, Nat.reduceAdd, Nat.reduceLeDiff, Int.reduceBEq, Int.reduceLT, Int.reduceLE, Int.reduceEq, ne_eq, not_false_eq_true, Nat.reduceMul, refE_val, refE_sz, outE_val, outE_sz, txE_val, txE_sz, ruleE_val, ruleE_sz, *]))
      exact hJ.out _ _ ⟨ins.length - (k + 1), by omega, k + 1, by omega, rfl, rfl, by simp [put], rfl⟩ (by repeat (first | exact Agree.refl _ _ | assumption | refine Agree.put ?_ rfl _))
  · have hlt' : ¬ (k : Int) < (ins.length : Int) := by omega
    have hke : k = ins.length := by omega
    subst hke
    obtain ⟨K2, hK2⟩ : ∃ K2, K2 = K ++ refP ins ins.length := ⟨_, rfl⟩
    have hK2l : K2.length ≤ 78 := by rw [hK2, List.length_append]; have := hRl ins.length; omega
    rw [← hK2] at e3
    have hK2H : Hid (K2 = K ++ refP ins ins.length) := hK2
    clear hK2 hRl hI hIr
    repeat' (first | (refine KT.run _ ?_) | (refine AWp.seqH fun KC => ?_) | (refine AWp.block ?_) | (refine AWp.region ?_) | (refine AWp.exit ?_) | (refine AWp.condB ?_) | (simp only [bse, wk, tys, storeH_ptr, Nat.reduceEqDiff, ↓reduceIte, reduceCtorEq, Nat.reduceAdd, Nat.reduceLeDiff, Int.reduceBEq, Int.reduceLT, Int.reduceLE, Int.reduceEq, ne_eq, not_false_eq_true, Nat.reduceMul, refE_val, refE_sz, outE_val, outE_sz, txE_val, txE_sz, ruleE_val, ruleE_sz, *]))
    have hini : Value.string (bs K2) = .string (bs (K2 ++ outP outs 0)) := by simp [outP, Lib.joinTail]
    refine AWp.loopH [61, 62, 63, 64, 65, 66, 67, 70, 71, 72, 73, 74, 75, 76, 77, 78, 79, 80, 81, 82, 83, 84, 85, 86, 87, 88, 89, 90, 91, 92, 3, 68, 69, 6] (fun m e' H' => ∃ k : Nat, k ≤ outs.length ∧ m = outs.length - k ∧ e' 6 = .int .i64 k ∧ e' 3 = .string (bs (K2 ++ outP outs k)) ∧ H' = [⟨9, 1, [.string ⟨#[112, 97, 121]⟩, .string ⟨#[106, 111, 105, 110, 32]⟩, .string ⟨#[108, 101, 97, 118, 101, 32]⟩], 0, true⟩]) outs.length ⟨0, by omega, by omega, rfl, (by simp only [put, reduceCtorEq, Option.some.injEq, Nat.reduceEqDiff, if_false]; rw [e3]; exact hini), rfl⟩ ?_
    rintro m e' H' hA ⟨k, hk, rfl, e6, e3, rfl⟩ hJ
    have a0 := hA 0 rfl; have a2 := hA 2 rfl; try simp only [bse, wk, tys, storeH_ptr, Nat.reduceEqDiff, ↓reduceIte, reduceCtorEq, Nat.reduceAdd, Nat.reduceLeDiff, Int.reduceBEq, Int.reduceLT, Int.reduceLE, Int.reduceEq, ne_eq, not_false_eq_true, Nat.reduceMul] at a0 a2; clear hA
    clear hini
    by_cases hlt : k < outs.length
    · have hlt' : (k : Int) < (outs.length : Int) := by omega
      have hw := wr_succ (k := k) (by omega)
      have hx := hO outs[k] (List.getElem_mem hlt)
      have hd1 := spec_digits outs[k].value (by omega) (by omega)
      have hrt := (spec_l2Text outs[k].rule hx.2).more (outE.flat (outs.drop (k + 1)))
      simp only [List.cons_append, List.nil_append] at hrt
      have q2 := ruleT_len 32 hx.2
      have q3 := ruleT_len 95 hx.2
      have hsw : PCalls Tryz.prog 80 [.string (bs (ruleT 32 outs[k].rule)), .int .u8 32, .int .u8 95] (.string (bs (ruleT 95 outs[k].rule))) := by
        have := spec_l3Swap (ruleT 32 outs[k].rule) (by omega) 32 95
        rw [swap_rule _ hx.2] at this
        exact this
      have q1 := itoa_len7 (x := outs[k].value) (by omega) (by omega)
      have hsn := outP_snoc outs k hlt
      have hXl : (K2 ++ outP outs k).length ≤ 280 := by rw [List.length_append]; have := hOl k; omega
      obtain ⟨X, hX⟩ : ∃ X, X = K2 ++ outP outs k := ⟨_, rfl⟩
      obtain ⟨Y, hY⟩ : ∃ Y, Y = X ++ [32] := ⟨_, rfl⟩
      obtain ⟨Z, hZ⟩ : ∃ Z, Z = Y ++ Lib.itoa outs[k].value := ⟨_, rfl⟩
      obtain ⟨V, hV⟩ : ∃ V, V = Z ++ [61] := ⟨_, rfl⟩
      have hE : V ++ ruleT 95 outs[k].rule = K2 ++ outP outs (k + 1) := by rw [hsn, hV, hZ, hY, hX]; unfold outT; simp only [List.append_assoc]
      rw [← hX] at hXl e3
      have lY : Y.length ≤ 281 := by rw [hY, List.length_append]; simp only [List.length_cons, List.length_nil]; omega
      have lZ : Z.length ≤ 288 := by rw [hZ, List.length_append]; omega
      have lV : V.length ≤ 289 := by rw [hV, List.length_append]; simp only [List.length_cons, List.length_nil]; omega
      have b1 : ∀ xo yo, binS Tryz.prog .add 9 xo yo (.string (bs X)) (.string ⟨#[32]⟩) = some (.string (bs Y)) := fun xo yo => by rw [hY]; exact bin_sadd _ _ _ X [32] (by simp only [List.length_cons, List.length_nil]; omega)
      have b2 : ∀ xo yo, binS Tryz.prog .add 9 xo yo (.string (bs Y)) (.string (bs (Lib.itoa outs[k].value))) = some (.string (bs Z)) := fun xo yo => by rw [hZ]; exact bin_sadd _ _ _ Y (Lib.itoa outs[k].value) (by omega)
      have b3 : ∀ xo yo, binS Tryz.prog .add 9 xo yo (.string (bs Z)) (.string ⟨#[61]⟩) = some (.string (bs V)) := fun xo yo => by rw [hV]; exact bin_sadd _ _ _ Z [61] (by simp only [List.length_cons, List.length_nil]; omega)
      have b4 : ∀ xo yo, binS Tryz.prog .add 9 xo yo (.string (bs V)) (.string (bs (ruleT 95 outs[k].rule))) = some (.string (bs (K2 ++ outP outs (k + 1)))) := fun xo yo => by rw [← hE]; exact bin_sadd _ _ _ V (ruleT 95 outs[k].rule) (by omega)
      clear hX hY hZ hV hE hsn lY lZ lV hXl q1 q2 q3 hO hOr hOl hx
      repeat' (first | (refine AWp.quiet (id := 14) (by kernel_rfl) (by kernel_rfl) ?_) | (refine qcall_start ?_; first | (refine qcallFi (hd1) rfl ?_ ?_; (focus ((first | exact rfl | (simp [pureV, flatV, refE_val, refE_sz, outE_val, outE_sz, txE_val, txE_sz, ruleE_val, ruleE_sz]; done))))) | (refine qcallFi (hrt) rfl ?_ ?_; (focus ((first | exact rfl | (simp [pureV, flatV, refE_val, refE_sz, outE_val, outE_sz, txE_val, txE_sz, ruleE_val, ruleE_sz]; done))))) | (refine qcallFi (hsw) rfl ?_ ?_; (focus ((first | exact rfl | (simp [pureV, flatV, refE_val, refE_sz, outE_val, outE_sz, txE_val, txE_sz, ruleE_val, ruleE_sz]; done)))))) | (refine KQ.run _ ?_) | (refine KT.run _ ?_) | (refine AWp.seqH fun KC => ?_) | (refine AWp.block ?_) | (refine AWp.region ?_) | (refine AWp.skip ?_) | (refine qops_callH rfl fun kC => ?_) | (refine AWp.condB ?_) | (simp only [bse, wk, tys, storeH_ptr, Nat.reduceEqDiff, ↓reduceIte, reduceCtorEq, Nat.reduceAdd, Nat.reduceLeDiff, Int.reduceBEq, Int.reduceLT, Int.reduceLE, Int.reduceEq, ne_eq, not_false_eq_true, Nat.reduceMul, refE_val, refE_sz, outE_val, outE_sz, txE_val, txE_sz, ruleE_val, ruleE_sz, *]))
      exact hJ.out _ _ ⟨outs.length - (k + 1), by omega, k + 1, by omega, rfl, rfl, by simp [put], rfl⟩ (by repeat (first | exact Agree.refl _ _ | assumption | refine Agree.put ?_ rfl _))
    · have hlt' : ¬ (k : Int) < (outs.length : Int) := by omega
      have hke : k = outs.length := by omega
      subst hke
      have e3H : e' 3 = .string (bs (K ++ refP ins ins.length ++ outP outs outs.length)) := by rw [e3, hK2H.out]
      repeat' (first | (refine KT.run _ ?_) | (refine AWp.seqH fun KC => ?_) | (refine AWp.region ?_) | (refine AWp.ret ?_) | (refine AWp.exit ?_) | (refine AWp.condB ?_) | (simp only [bse, wk, tys, storeH_ptr, Nat.reduceEqDiff, ↓reduceIte, reduceCtorEq, Nat.reduceAdd, Nat.reduceLeDiff, Int.reduceBEq, Int.reduceLT, Int.reduceLE, Int.reduceEq, ne_eq, not_false_eq_true, Nat.reduceMul, refE_val, refE_sz, outE_val, outE_sz, txE_val, txE_sz, ruleE_val, ruleE_sz, *]))
      all_goals (rw [hK2H.out, List.append_assoc])
theorem spec_l3Text (t : TTx) (h0 : txFault t = 0) : PCalls Tryz.prog 82 [ip [.int .i64 t.kind, .int .i64 t.member, islE refE t.ins, islE outE t.outs]] (.string (bs (txT t))) := by
  obtain ⟨hk, _⟩ := tx_bounds h0
  obtain ⟨kind, member, ins, outs⟩ := t
  dsimp only at hk ⊢
  have h3 : kind = 0 ∨ kind = 1 ∨ kind = 2 := by omega
  rcases h3 with rfl | rfl | rfl
  · exact l3Text0 member ins outs h0
  · exact l3Text1 member ins outs h0
  · exact l3Text2 member ins outs h0
end Go.BM
/- Refs, read out of a text: the reference. -/
set_option linter.unusedVariables false
set_option linter.unusedSimpArgs false
set_option maxRecDepth 100000
set_option maxHeartbeats 4000000
namespace Go.BM
open Go.Proofs Go.RowKit
attribute [local irreducible] ACalls AWp aops qops optK optP cK gateA condK mops qcallK PCalls loadV fldV idxV lenV slV storeH binS
/-- Refs told by words. -/
def insF : List (List UInt8) → Option (List TRef)
  | [] => some []
  | w :: ws => match cutL 58 w with
    | [a, b] => if (numD 2 a).2 && (numD 1 b).2 then (insF ws).map (⟨(numD 2 a).1, (numD 1 b).1⟩ :: ·) else none
    | _ => none
def dIns (R : Option (List TRef)) (bs : List Blk) (F : (Nat → Nat) → Value) : Prop :=
  (R = none ∧ bs = [] ∧ F = fun _ => .tuple #[.slice none 0 0, .bool false]) ∨
  (∃ rs ver, R = some rs ∧ bs = [⟨128, 2, refE.flat rs, ver, true⟩] ∧ F = fun ρ => .tuple #[.slice (some ⟨ρ 0, 0, none⟩) rs.length ver, .bool true])
theorem refE_flatF (rs : List TRef) : ∀ c ∈ refE.flat rs, flatV c = true := by
  induction rs with
  | nil => intro c hc; simp [refE.flat_nil] at hc
  | cons a l ih =>
    intro c hc
    have e : refE.flat (a :: l) = [.int .i64 a.tx, .int .i64 a.at'] ++ refE.flat l := rfl
    rw [e] at hc
    rcases List.mem_append.1 hc with h | h
    · simp at h; rcases h with rfl | rfl <;> rfl
    · exact ih c h
theorem dIns_sh {R : Option (List TRef)} : ∀ bs F, dIns R bs F → Shp bs F := by
  rintro _ _ (⟨_, rfl, rfl⟩ | ⟨rs, ver, _, rfl, rfl⟩)
  · exact Shp.none fun N ρ k => LifL.tupL (.cons .nil (.cons (.flat _ rfl) .nil))
  · exact Shp.one (refE_flatF _) fun N ρ k => LifL.tupL (.cons (.slice 0 0 none _ _ (by decide)) (.cons (.flat _ rfl) .nil))
end Go.BM
/- Refs, read out of a text: the reference's walk. -/
set_option linter.unusedVariables false
set_option linter.unusedSimpArgs false
set_option maxRecDepth 100000
set_option maxHeartbeats 4000000
namespace Go.BM
open Go.Proofs Go.RowKit
attribute [local irreducible] ACalls AWp aops qops optK optP cK gateA condK mops qcallK PCalls loadV fldV idxV lenV slV storeH binS
theorem insF_step (ws : List (List UInt8)) (k : Nat) (hk : k < ws.length) : insF (ws.drop k) = match cutL 58 ws[k] with
    | [a, b] => if (numD 2 a).2 && (numD 1 b).2 then (insF (ws.drop (k + 1))).map (⟨(numD 2 a).1, (numD 1 b).1⟩ :: ·) else none
    | _ => none := by
  rw [List.drop_eq_getElem_cons hk]
  rfl
theorem spec_l3Ins (t : List UInt8) (ht : t.length ≤ 1000000) : NFun Tryz.prog 78 [.string (bs t)] (dIns (insF (cutL 43 t))) := by
  have hc := spec_l2Cut t 43 43 rfl (by omega)
  have hcw : cutW 43 t = (cutL 43 t).map bs := rfl
  rw [hcw] at hc
  have hwl := cutL_mem 43 t
  have hln := cutL_len 43 t
  generalize cutL 43 t = ws at hc hwl hln ⊢
  clear hcw
  obtain ⟨R, hR⟩ : ∃ R, R = insF ws := ⟨_, rfl⟩
  rw [← hR]
  have hRH : Hid (R = (insF (ws.drop 0)).map (([] : List TRef) ++ ·)) := by unfold Hid; rw [hR]; simp
  clear hR
  have hml : (ws.map bs).length = ws.length := List.length_map ..
  unfold NFun
  refine ACalls.enter (n := 56) (rs := [.tmp 2, .tmp 3]) Tryz.func78 rfl rfl rfl (by kernel_rfl) (by kernel_rfl) (by kernel_rfl) (Nat.le_of_ble_eq_true rfl) ?_
  repeat' (first | (refine ACalls.start ?_; first | (refine ACalls.ofJi (hc) rfl ?_)) | (refine KV.run _ ?_) | (refine KT.run _ ?_) | (refine AWp.seqH fun KC => ?_) | (refine AWp.block ?_) | (refine AWp.region ?_) | (refine aops_callH rfl fun kC => ?_) | (simp only [bse, wk, tys, storeH_ptr, Nat.reduceEqDiff, ↓reduceIte, reduceCtorEq, Nat.reduceAdd, Nat.reduceLeDiff, Int.reduceBEq, Int.reduceLT, Int.reduceLE, Int.reduceEq, ne_eq, not_false_eq_true, Nat.reduceMul, refE_val, refE_sz, *]))
  refine AWp.loopH [15, 16, 17, 18, 21, 22, 23, 24, 25, 7, 26, 27, 28, 2, 3, 30, 31, 32, 33, 29, 34, 35, 8, 9, 37, 38, 39, 40, 36, 41, 42, 10, 11, 43, 44, 45, 46, 47, 48, 49, 50, 51, 52, 53, 54, 4, 19, 20, 6] (fun m e' H' => ∃ (k ver : Nat) (pre : List TRef) (G : AH), k ≤ ws.length ∧ m = ws.length - k ∧ e' 6 = .int .i64 k ∧ e' 4 = .slice (some ⟨0, 0, none⟩) k ver ∧ pre.length = k ∧ H' = ⟨128, 2, refE.flat pre, ver, true⟩ :: G ∧ Hid (R = (insF (ws.drop k)).map (pre ++ ·))) ws.length ⟨0, 0, [], _, by omega, by omega, rfl, rfl, rfl, rfl, hRH⟩ ?_
  rintro m e' H' hA ⟨k, ver, pre, G, hk, rfl, e6, e4, hpl, rfl, hF⟩ hJ
  have a5 := hA 5 rfl; try simp only [bse, wk, tys, storeH_ptr, Nat.reduceEqDiff, ↓reduceIte, reduceCtorEq, Nat.reduceAdd, Nat.reduceLeDiff, Int.reduceBEq, Int.reduceLT, Int.reduceLE, Int.reduceEq, ne_eq, not_false_eq_true, Nat.reduceMul] at a5; clear hA
  by_cases hlt : k < ws.length
  · have hlt' : (k : Int) < (ws.length : Int) := by omega
    have hw := wr_succ (k := k) (by omega)
    have hst := insF_step ws k hlt
    have hwk := hwl ws[k] (List.getElem_mem hlt)
    have hkb : (ws.map bs)[k]'(by omega) = bs ws[k] := List.getElem_map ..
    have hc2 := spec_l2Cut ws[k] 58 58 rfl (by omega)
    have hcl : (cutW 58 ws[k]).length = (cutL 58 ws[k]).length := List.length_map ..
    by_cases h2 : (cutL 58 ws[k]).length = 2
    · obtain ⟨wa, wb, hab⟩ : ∃ wa wb, cutL 58 ws[k] = [wa, wb] := by
        match hq : cutL 58 ws[k], h2 with
        | [wa, wb], _ => exact ⟨wa, wb, rfl⟩
      have hla := cutL_mem 58 ws[k] wa (by rw [hab]; simp)
      have hlb := cutL_mem 58 ws[k] wb (by rw [hab]; simp)
      have hW : cutW 58 ws[k] = [bs wa, bs wb] := by unfold cutW; rw [hab]; rfl
      rw [hW] at hc2
      rw [hab] at hst
      dsimp only at hst
      have n1 : PCalls Tryz.prog 68 [.string (bs wa), .int .i64 2] (.tuple #[.int .i64 (numD 2 wa).1, .bool (numD 2 wa).2]) := spec_l2Number wa 2 (by omega) (by omega)
      have n2 : PCalls Tryz.prog 68 [.string (bs wb), .int .i64 1] (.tuple #[.int .i64 (numD 1 wb).1, .bool (numD 1 wb).2]) := spec_l2Number wb 1 (by omega) (by omega)
      generalize numD 2 wa = A at n1 hst
      generalize numD 1 wb = C at n2 hst
      obtain ⟨x, a⟩ := A
      obtain ⟨y, c⟩ := C
      dsimp only at n1 n2 hst
      have q2 : (((2 : Nat) : Int) == 2) = true := rfl
      have ix1 : ∀ H : AH, idxV Tryz.prog H 22 (islE strE [bs wa, bs wb]) (.int .i64 1) = some (ip [.string (bs wb)]) := fun H => idxV_isl (P := Tryz.prog) (H := H) (n := 2) (k := 1) (kd := .i64) (cs := strE.flat [bs wa, bs wb]) elZ22 (by omega)
      have ix0 : ∀ H : AH, idxV Tryz.prog H 22 (islE strE [bs wa, bs wb]) (.int .i64 0) = some (ip [.string (bs wa), .string (bs wb)]) := fun H => idxV_isl (P := Tryz.prog) (H := H) (n := 2) (k := 0) (kd := .i64) (cs := strE.flat [bs wa, bs wb]) elZ22 (by omega)
      have ld : ∀ (H : AH) (w : ByteArray) (l : List Value), loadV Tryz.prog H 9 (ip (.string w :: l)) = some (.string w) := fun H w l => load_ip1 (P := Tryz.prog) (H := H) (T := 9) (p := 0) (cs := .string w :: l) lay9 rfl
      clear hcl h2 hab hla hlb hW hwl hwk
      cases hac : (a && c) with
      | false =>
        have hN : R = none := by rw [hF.out, hst, hac]; rfl
        subst hN
        clear hst hF hRH
        have hac' : a = false ∨ c = false := by cases a <;> cases c <;> simp_all
        clear hac
        rcases hac' with rfl | rfl
        · repeat' (first | (refine ACalls.start ?_; first | (refine ACalls.ofJi (hc2) rfl ?_) | (refine ACalls.ofJi (n1) rfl ?_) | (refine ACalls.ofJi (n2) rfl ?_)) | (refine qcall_start ?_; first | (refine qcallFi (hc2) rfl ?_ ?_; (focus ((first | exact rfl | (simp [pureV, flatV, refE_val, refE_sz]; done))))) | (refine qcallFi (n1) rfl ?_ ?_; (focus ((first | exact rfl | (simp [pureV, flatV, refE_val, refE_sz]; done))))) | (refine qcallFi (n2) rfl ?_ ?_; (focus ((first | exact rfl | (simp [pureV, flatV, refE_val, refE_sz]; done)))))) | (refine KV.run _ ?_) | (refine KQ.run _ ?_) | (refine KT.run _ ?_) | (refine AWp.seqH fun KC => ?_) | (refine AWp.block ?_) | (refine AWp.region ?_) | (refine mops_step0 rfl rfl fun KC => ?_) | (refine mops_step1 rfl fun KC => ?_) | (refine mops_step2 rfl fun KC => ?_) | (refine AWp.ret ?_) | (refine AWp.skip ?_) | (refine AWp.exit ?_) | (refine aops_callH rfl fun kC => ?_) | (refine qops_callH rfl fun kC => ?_) | (refine AWp.condB ?_) | (simp only [bse, wk, tys, storeH_ptr, Nat.reduceEqDiff, ↓reduceIte, reduceCtorEq, Nat.reduceAdd, Nat.reduceLeDiff, Int.reduceBEq, Int.reduceLT, Int.reduceLE, Int.reduceEq, ne_eq, not_false_eq_true, Nat.reduceMul, refE_val, refE_sz, *]) | (refine condK_bool (fun hb => ?_) (fun hb => ?_) <;> ((try simp only [Bool.not_eq_true', Bool.not_eq_false'] at hb) <;> (try (have hbe := of_decide_eq_true hb)) <;> (try (have hbe := eq_of_beq hb)))) | (refine aops_partB ?_) | (refine qops_partB ?_))
          all_goals exact NFOut.none (.inl ⟨rfl, rfl, rfl⟩) rfl
        · repeat' (first | (refine ACalls.start ?_; first | (refine ACalls.ofJi (hc2) rfl ?_) | (refine ACalls.ofJi (n1) rfl ?_) | (refine ACalls.ofJi (n2) rfl ?_)) | (refine qcall_start ?_; first | (refine qcallFi (hc2) rfl ?_ ?_; (focus ((first | exact rfl | (simp [pureV, flatV, refE_val, refE_sz]; done))))) | (refine qcallFi (n1) rfl ?_ ?_; (focus ((first | exact rfl | (simp [pureV, flatV, refE_val, refE_sz]; done))))) | (refine qcallFi (n2) rfl ?_ ?_; (focus ((first | exact rfl | (simp [pureV, flatV, refE_val, refE_sz]; done)))))) | (refine KV.run _ ?_) | (refine KQ.run _ ?_) | (refine KT.run _ ?_) | (refine AWp.seqH fun KC => ?_) | (refine AWp.block ?_) | (refine AWp.region ?_) | (refine mops_step0 rfl rfl fun KC => ?_) | (refine mops_step1 rfl fun KC => ?_) | (refine mops_step2 rfl fun KC => ?_) | (refine AWp.ret ?_) | (refine AWp.skip ?_) | (refine AWp.exit ?_) | (refine aops_callH rfl fun kC => ?_) | (refine qops_callH rfl fun kC => ?_) | (refine AWp.condB ?_) | (simp only [bse, wk, tys, storeH_ptr, Nat.reduceEqDiff, ↓reduceIte, reduceCtorEq, Nat.reduceAdd, Nat.reduceLeDiff, Int.reduceBEq, Int.reduceLT, Int.reduceLE, Int.reduceEq, ne_eq, not_false_eq_true, Nat.reduceMul, refE_val, refE_sz, *]) | (refine condK_bool (fun hb => ?_) (fun hb => ?_) <;> ((try simp only [Bool.not_eq_true', Bool.not_eq_false'] at hb) <;> (try (have hbe := of_decide_eq_true hb)) <;> (try (have hbe := eq_of_beq hb)))) | (refine aops_partB ?_) | (refine qops_partB ?_))
          all_goals exact NFOut.none (.inl ⟨rfl, rfl, rfl⟩) rfl
      | true =>
        have hS : Hid (R = (insF (ws.drop (k + 1))).map ((pre ++ [⟨x, y⟩]) ++ ·)) := by
          unfold Hid
          rw [hF.out, hst, hac, if_pos rfl, Option.map_map]
          congr 1
          funext l
          simp
        obtain ⟨rfl, rfl⟩ : a = true ∧ c = true := by cases a <;> cases c <;> simp_all
        have hap := appendH_one (P := Tryz.prog) (B := 0) (E := refE) (H0 := ⟨128, 2, refE.flat pre, ver, true⟩ :: G) (ys := pre) (⟨x, y⟩ : TRef) elZ42 elZ42 zOk42 (r := 0) rfl (Nat.zero_le _) (by omega) (by omega)
        rw [hpl] at hap
        have hap2 : appendH Tryz.prog 0 (⟨128, 2, refE.flat pre, ver, true⟩ :: (G ++ [⟨128, 2, [.int .i64 x, .int .i64 y], 0, true⟩])) 42 42 (.slice (some ⟨0, 0, none⟩) k ver) (.slice (some ⟨G.length + 1, 0, none⟩) 1 0) = some (.slice (some ⟨0, 0, none⟩) (k + 1) (ver + 1), ⟨128, 2, refE.flat (pre ++ [⟨x, y⟩]), ver + 1, true⟩ :: (G ++ [⟨128, 2, [.int .i64 x, .int .i64 y], 0, true⟩])) := hap
        clear hap
        clear hst hF hRH hac
        repeat' (first | (refine ACalls.start ?_; first | (refine ACalls.ofJi (hc2) rfl ?_) | (refine ACalls.ofJi (n1) rfl ?_) | (refine ACalls.ofJi (n2) rfl ?_)) | (refine KV.run _ ?_) | (refine KT.run _ ?_) | (refine AWp.seqH fun KC => ?_) | (refine AWp.block ?_) | (refine AWp.region ?_) | (refine AWp.skip ?_) | (refine aops_callH rfl fun kC => ?_) | (refine AWp.condB ?_) | (simp only [bse, wk, tys, storeH_ptr, Nat.reduceEqDiff, ↓reduceIte, reduceCtorEq, Nat.reduceAdd, Nat.reduceLeDiff, Int.reduceBEq, Int.reduceLT, Int.reduceLE, Int.reduceEq, ne_eq, not_false_eq_true, Nat.reduceMul, refE_val, refE_sz, *]))
        exact hJ.out _ _ ⟨ws.length - (k + 1), by omega, k + 1, ver + 1, pre ++ [⟨x, y⟩], _, by omega, rfl, rfl, by simp [put], by simp [hpl], rfl, hS⟩ (by repeat (first | exact Agree.refl _ _ | assumption | refine Agree.put ?_ rfl _))
    · have h2' : (((cutW 58 ws[k]).length : Int) == 2) = false := by rw [hcl]; simp; omega
      have hN : R = none := by
        have e : insF (ws.drop k) = none := by
          rw [hst]
          split
          · rename_i a b he; rw [he] at h2; simp at h2
          · rfl
        rw [hF.out, e]; rfl
      subst hN
      clear hst hF hRH hcl h2 hwl
      repeat' (first | (refine ACalls.start ?_; first | (refine ACalls.ofJi (hc2) rfl ?_)) | (refine KV.run _ ?_) | (refine KT.run _ ?_) | (refine AWp.seqH fun KC => ?_) | (refine AWp.block ?_) | (refine AWp.region ?_) | (refine AWp.ret ?_) | (refine AWp.skip ?_) | (refine aops_callH rfl fun kC => ?_) | (refine AWp.condB ?_) | (simp only [bse, wk, tys, storeH_ptr, Nat.reduceEqDiff, ↓reduceIte, reduceCtorEq, Nat.reduceAdd, Nat.reduceLeDiff, Int.reduceBEq, Int.reduceLT, Int.reduceLE, Int.reduceEq, ne_eq, not_false_eq_true, Nat.reduceMul, refE_val, refE_sz, *]))
      exact NFOut.none (.inl ⟨rfl, rfl, rfl⟩) rfl
  · have hlt' : ¬ (k : Int) < (ws.length : Int) := by omega
    have hke : k = ws.length := by omega
    subst hke
    have hS : R = some pre := by rw [hF.out, List.drop_length]; simp [insF]
    subst hS
    clear hF hRH hwl
    repeat' (first | (refine KT.run _ ?_) | (refine AWp.seqH fun KC => ?_) | (refine AWp.region ?_) | (refine AWp.ret ?_) | (refine AWp.exit ?_) | (refine AWp.condB ?_) | (simp only [bse, wk, tys, storeH_ptr, Nat.reduceEqDiff, ↓reduceIte, reduceCtorEq, Nat.reduceAdd, Nat.reduceLeDiff, Int.reduceBEq, Int.reduceLT, Int.reduceLE, Int.reduceEq, ne_eq, not_false_eq_true, Nat.reduceMul, refE_val, refE_sz, *]))
    exact NFOut.one 0 rfl (.inr ⟨pre, ver, rfl, rfl, rfl⟩) (by rw [hpl])
end Go.BM
/- A transaction read out of a text: the reference; plain functions, and where there is none. -/
set_option linter.unusedVariables false
set_option linter.unusedSimpArgs false
set_option maxRecDepth 100000
set_option maxHeartbeats 4000000
namespace Go.BM
open Go.Proofs Go.RowKit
attribute [local irreducible] ACalls AWp aops qops optK optP cK gateA condK mops qcallK PCalls loadV fldV idxV lenV slV storeH binS
theorem SlM.two {n el el2 : Nat} {α β : Type} {E : Enc α} {E2 : Enc β} {M M' : AH} {a a2 : Option Addr} {len ver len2 ver2 : Nat} {xs : List α} {ys : List β} (h : SlM n el E M a len ver xs) (h2 : SlM n el2 E2 M a2 len2 ver2 ys) (hne : el ≠ el2)
    (hfr : ∀ i, i < M.length → a2 ≠ some ⟨n + i, 0, none⟩ → M'[i]? = M[i]?) : SlM n el E M' a len ver xs := by
  rcases h with h | ⟨r, h1, h3, hr⟩
  · exact .inl h
  · refine .inr ⟨r, h1, h3, (hfr r (lt_of_some hr) fun e => ?_).trans hr⟩
    rcases h2 with ⟨rfl, _⟩ | ⟨r2, rfl, _, hr2⟩
    · cases e
    · injection e with e
      injection e with e
      have : r2 = r := by omega
      subst this
      rw [hr] at hr2
      injection hr2 with hr2
      have e2 : (sb el E xs ver true).el = (sb el2 E2 ys ver2 true).el := by rw [hr2]
      exact hne e2
def parOuts : List (List UInt8) → Option (List TOut)
  | [] => some []
  | w :: ws => match cutL 61 w with
    | [a, b] => if (numD 7 a).2 && (parR (swapL 95 32 b)).2 then (parOuts ws).map (⟨(numD 7 a).1, (parR (swapL 95 32 b)).1⟩ :: ·) else none
    | _ => none
def parEnd (t : List UInt8) (k m : Int) (ins : List TRef) (outs : List TOut) : Option TTx := if txFault ⟨k, m, ins, outs⟩ = 0 ∧ txT ⟨k, m, ins, outs⟩ = t then some ⟨k, m, ins, outs⟩ else none
def parBody (t : List UInt8) (k m : Int) (ws : List (List UInt8)) : Option TTx := match ws with
  | wi :: w :: wo => (insF (cutL 43 wi)).bind fun ins => (parOuts (w :: wo)).bind fun outs => parEnd t k m ins outs
  | _ => none
/-- A transaction, read as the reference reads it. -/
def parT (t : List UInt8) : Option TTx := match cutL 32 t with
  | w0 :: ws => if w0 = [112, 97, 121] then parBody t 0 0 ws else if w0 = [106, 111, 105, 110] ∨ w0 = [108, 101, 97, 118, 101] then match ws with
      | wm :: ws' => if (numD 3 wm).2 then parBody t (if w0 = [106, 111, 105, 110] then 1 else 2) (numD 3 wm).1 ws' else none
      | [] => none
    else none
  | [] => none
theorem parOuts_step (ws : List (List UInt8)) (k : Nat) (hk : k < ws.length) : parOuts (ws.drop k) = match cutL 61 ws[k] with
    | [a, b] => if (numD 7 a).2 && (parR (swapL 95 32 b)).2 then (parOuts (ws.drop (k + 1))).map (⟨(numD 7 a).1, (parR (swapL 95 32 b)).1⟩ :: ·) else none
    | _ => none := by
  rw [List.drop_eq_getElem_cons hk]
  rfl
theorem insF_len : ∀ (ws : List (List UInt8)) (rs : List TRef), insF ws = some rs → rs.length = ws.length
  | [], rs, h => by simp [insF] at h; subst h; rfl
  | w :: ws, rs, h => by
    unfold insF at h
    split at h
    · split at h
      · obtain ⟨l, hl, rfl⟩ := Option.map_eq_some_iff.1 h
        have := insF_len ws l hl
        simp [this]
      · cases h
    · cases h
theorem parR_ok {t : List UInt8} (h : (parR t).2 = true) : ruleFault (parR t).1.keys (parR t).1.need (parR t).1.after = 0 := by
  unfold parR at h ⊢
  split at h
  · split at h
    · rename_i h1
      rw [if_pos h1]
      simp only [Bool.and_eq_true, beq_iff_eq] at h
      exact h.2
    · cases h
  · split at h
    · rename_i h1
      rw [if_pos h1]
      simp only [Bool.and_eq_true, beq_iff_eq] at h
      exact h.2
    · cases h
  · cases h
/-- What comes back of a reading. -/
def RT (o : Option TTx) (v : Value) : Prop := ∃ (x : TTx) (ok : Bool), v = .tuple #[.agg #[.int .i64 x.kind, .int .i64 x.member, islE refE x.ins, islE outE x.outs], .bool ok] ∧ o = if ok then some x else none
theorem RT.im {o : Option TTx} {v : Value} (h : RT o v) : Im v := by
  obtain ⟨x, ok, rfl, _⟩ := h
  exact Im.tupleL (Im.consL (Im.aggL (Im.consL (.flat _ rfl) (Im.consL (.flat _ rfl) (Im.consL (islE_im _ _) (Im.consL (islE_im _ _) Im.nilL))))) (Im.consL (.flat _ rfl) Im.nilL))
theorem eout_T {N : AH} {o : Option TTx} {k m : Int} {u v : Value} {ins : List TRef} {outs : List TOut} {ok : Bool} (h : o = if ok then some ⟨k, m, ins, outs⟩ else none) (h1 : Bor N u (islE refE ins)) (h2 : Bor N v (islE outE outs)) : EOut (RT o) (.tuple #[.agg #[.int .i64 k, .int .i64 m, u, v], .bool ok]) N :=
  ⟨_, ⟨⟨k, m, ins, outs⟩, ok, rfl, h⟩, RT.im ⟨⟨k, m, ins, outs⟩, ok, rfl, h⟩, Bor.tupleL (.cons (Bor.aggL (.cons (.same _ (.flat _ rfl)) (.cons (.same _ (.flat _ rfl)) (.cons h1 (.cons h2 .nil))))) (.cons (.same _ (.flat _ rfl)) .nil))⟩
theorem eout_F {N : AH} {k m : Int} : EOut (RT none) (.tuple #[.agg #[.int .i64 k, .int .i64 m, .slice none 0 0, .slice none 0 0], .bool false]) N := eout_T (ok := false) rfl (ins := []) (outs := []) Bor.nil Bor.nil
theorem ix_at (W : List ByteArray) (k : Nat) (hk : k < W.length) (H : AH) : idxV Tryz.prog H 22 (islE strE W) (.int .i64 (k : Int)) = some (ip (.string W[k] :: strE.flat (W.drop (k + 1)))) := by
  have h := idxV_isl (P := Tryz.prog) (H := H) (n := W.length) (k := k) (kd := .i64) (cs := strE.flat W) elZ22 hk
  have e : (strE.flat W).drop (k * 1) = .string W[k] :: strE.flat (W.drop (k + 1)) := by
    have := strE.flat_drop W k
    rw [strE_sz] at this
    rw [this, strE.drop_cons W k hk]
    rfl
  rw [e] at h
  exact h
theorem l3ParseF1 (t w0 : List UInt8) (ws : List (List UInt8)) (hw : cutL 32 t = w0 :: ws) (h1 : ¬ w0 = [112, 97, 121]) (h2 : ¬ w0 = [106, 111, 105, 110]) (h3 : ¬ w0 = [108, 101, 97, 118, 101]) (ht : t.length ≤ 300) : ECalls Tryz.prog 55 [.string (bs t)] (RT none) := by
  have hsp := spec_l2Cut t 32 32 rfl (by omega)
  obtain ⟨W, hW⟩ : ∃ W, W = cutW 32 t := ⟨_, rfl⟩
  have hWe : W = bs w0 :: ws.map bs := by rw [hW]; unfold cutW; rw [hw]; rfl
  rw [← hW] at hsp
  have ix0 : ∀ H : AH, idxV Tryz.prog H 22 (islE strE W) (.int .i64 0) = some (ip (.string (bs w0) :: strE.flat (ws.map bs))) := fun H => by rw [hWe]; exact ix_cons H _ _
  have ld := ld_str
  have q1 : (bs w0 == ⟨#[112, 97, 121]⟩) = false := by rw [show (bs w0 == ⟨#[112, 97, 121]⟩) = (w0 == [112, 97, 121]) from bs_beq _ _]; simpa using h1
  have q2 : (bs w0 == ⟨#[106, 111, 105, 110]⟩) = false := by rw [show (bs w0 == ⟨#[106, 111, 105, 110]⟩) = (w0 == [106, 111, 105, 110]) from bs_beq _ _]; simpa using h2
  have q3 : (bs w0 == ⟨#[108, 101, 97, 118, 101]⟩) = false := by rw [show (bs w0 == ⟨#[108, 101, 97, 118, 101]⟩) = (w0 == [108, 101, 97, 118, 101]) from bs_beq _ _]; simpa using h3
  clear hWe hW hw h1 h2 h3
  unfold ECalls
  refine ACalls.enter (n := 136) (rs := [.cell 2 45, .tmp 3]) Tryz.func55 rfl rfl rfl (by kernel_rfl) (by kernel_rfl) (by kernel_rfl) (Nat.le_of_ble_eq_true rfl) ?_
  repeat' (first | (refine ACalls.start ?_; first | (refine ACalls.ofJi (hsp) rfl ?_)) | (refine KV.run _ ?_) | (refine KT.run _ ?_) | (refine AWp.seqH fun KC => ?_) | (refine AWp.region ?_) | (refine AWp.ret ?_) | (refine aops_callH rfl fun kC => ?_) | (refine AWp.condB ?_) | (simp only [bse, wk, tys, storeH_ptr, Nat.reduceEqDiff, ↓reduceIte, reduceCtorEq, Nat.reduceAdd, Nat.reduceLeDiff, Int.reduceBEq, Int.reduceLT, Int.reduceLE, Int.reduceEq, ne_eq, not_false_eq_true, Nat.reduceMul, refE_val, refE_sz, outE_val, outE_sz, txE_val, txE_sz, ruleE_val, ruleE_sz, Int.cast_ofNat_Int, *]))
  all_goals exact eout_F
theorem l3ParseF2 (t w0 : List UInt8) (ws : List (List UInt8)) (hw : cutL 32 t = w0 :: ws) (h1 : w0 = [112, 97, 121]) (hl : ws.length < 2) (ht : t.length ≤ 300) : ECalls Tryz.prog 55 [.string (bs t)] (RT none) := by
  have hsp := spec_l2Cut t 32 32 rfl (by omega)
  obtain ⟨W, hW⟩ : ∃ W, W = cutW 32 t := ⟨_, rfl⟩
  have hWe : W = bs w0 :: ws.map bs := by rw [hW]; unfold cutW; rw [hw]; rfl
  rw [← hW] at hsp
  have ix0 : ∀ H : AH, idxV Tryz.prog H 22 (islE strE W) (.int .i64 0) = some (ip (.string (bs w0) :: strE.flat (ws.map bs))) := fun H => by rw [hWe]; exact ix_cons H _ _
  have ld := ld_str
  have q1 : (bs w0 == ⟨#[112, 97, 121]⟩) = true := by rw [show (bs w0 == ⟨#[112, 97, 121]⟩) = (w0 == [112, 97, 121]) from bs_beq _ _]; simpa using h1
  have q2 : (bs w0 == ⟨#[106, 111, 105, 110]⟩) = false := by rw [show (bs w0 == ⟨#[106, 111, 105, 110]⟩) = (w0 == [106, 111, 105, 110]) from bs_beq _ _, h1]; rfl
  have q3 : (bs w0 == ⟨#[108, 101, 97, 118, 101]⟩) = false := by rw [show (bs w0 == ⟨#[108, 101, 97, 118, 101]⟩) = (w0 == [108, 101, 97, 118, 101]) from bs_beq _ _, h1]; rfl
  have hlen : (W.length : Int) < 3 := by rw [hWe]; simp; omega
  have hw3 : IntKind.i64.wrap (1 + 2) = 3 := by decide
  clear hWe hW hw h1 hl
  unfold ECalls
  refine ACalls.enter (n := 136) (rs := [.cell 2 45, .tmp 3]) Tryz.func55 rfl rfl rfl (by kernel_rfl) (by kernel_rfl) (by kernel_rfl) (Nat.le_of_ble_eq_true rfl) ?_
  repeat' (first | (refine ACalls.start ?_; first | (refine ACalls.ofJi (hsp) rfl ?_)) | (refine KV.run _ ?_) | (refine KT.run _ ?_) | (refine AWp.seqH fun KC => ?_) | (refine AWp.region ?_) | (refine AWp.ret ?_) | (refine AWp.skip ?_) | (refine aops_callH rfl fun kC => ?_) | (refine AWp.condB ?_) | (simp only [bse, wk, tys, storeH_ptr, Nat.reduceEqDiff, ↓reduceIte, reduceCtorEq, Nat.reduceAdd, Nat.reduceLeDiff, Int.reduceBEq, Int.reduceLT, Int.reduceLE, Int.reduceEq, ne_eq, not_false_eq_true, Nat.reduceMul, refE_val, refE_sz, outE_val, outE_sz, txE_val, txE_sz, ruleE_val, ruleE_sz, Int.cast_ofNat_Int, *]))
  all_goals exact eout_F
theorem l3ParseF3 (t w0 : List UInt8) (hw : cutL 32 t = [w0]) (h1 : w0 = [106, 111, 105, 110] ∨ w0 = [108, 101, 97, 118, 101]) (ht : t.length ≤ 300) : ECalls Tryz.prog 55 [.string (bs t)] (RT none) := by
  have hsp := spec_l2Cut t 32 32 rfl (by omega)
  obtain ⟨W, hW⟩ : ∃ W, W = cutW 32 t := ⟨_, rfl⟩
  have hWe : W = [bs w0] := by rw [hW]; unfold cutW; rw [hw]; rfl
  rw [← hW] at hsp
  have ix0 : ∀ H : AH, idxV Tryz.prog H 22 (islE strE W) (.int .i64 0) = some (ip (.string (bs w0) :: strE.flat [])) := fun H => by rw [hWe]; exact ix_cons H _ _
  have ld := ld_str
  have e2 : (bs w0 == ⟨#[106, 111, 105, 110]⟩) = (w0 == [106, 111, 105, 110]) := bs_beq _ _
  have e3 : (bs w0 == ⟨#[108, 101, 97, 118, 101]⟩) = (w0 == [108, 101, 97, 118, 101]) := bs_beq _ _
  have hlen : (W.length : Int) < 2 := by rw [hWe]; simp
  have hq : (bs w0 == ⟨#[106, 111, 105, 110]⟩) = true ∨ ((bs w0 == ⟨#[106, 111, 105, 110]⟩) = false ∧ (bs w0 == ⟨#[108, 101, 97, 118, 101]⟩) = true) := by
    rw [e2, e3]
    rcases h1 with rfl | rfl
    · exact .inl rfl
    · exact .inr ⟨rfl, rfl⟩
  clear hWe hW hw h1 e2 e3
  rcases hq with hq | ⟨hq, hq2⟩
  · unfold ECalls
    refine ACalls.enter (n := 136) (rs := [.cell 2 45, .tmp 3]) Tryz.func55 rfl rfl rfl (by kernel_rfl) (by kernel_rfl) (by kernel_rfl) (Nat.le_of_ble_eq_true rfl) ?_
    repeat' (first | (refine ACalls.start ?_; first | (refine ACalls.ofJi (hsp) rfl ?_)) | (refine KV.run _ ?_) | (refine KT.run _ ?_) | (refine AWp.seqH fun KC => ?_) | (refine AWp.region ?_) | (refine AWp.ret ?_) | (refine aops_callH rfl fun kC => ?_) | (refine AWp.condB ?_) | (simp only [bse, wk, tys, storeH_ptr, Nat.reduceEqDiff, ↓reduceIte, reduceCtorEq, Nat.reduceAdd, Nat.reduceLeDiff, Int.reduceBEq, Int.reduceLT, Int.reduceLE, Int.reduceEq, ne_eq, not_false_eq_true, Nat.reduceMul, refE_val, refE_sz, outE_val, outE_sz, txE_val, txE_sz, ruleE_val, ruleE_sz, Int.cast_ofNat_Int, *]))
    all_goals exact eout_F
  · unfold ECalls
    refine ACalls.enter (n := 136) (rs := [.cell 2 45, .tmp 3]) Tryz.func55 rfl rfl rfl (by kernel_rfl) (by kernel_rfl) (by kernel_rfl) (Nat.le_of_ble_eq_true rfl) ?_
    repeat' (first | (refine ACalls.start ?_; first | (refine ACalls.ofJi (hsp) rfl ?_)) | (refine KV.run _ ?_) | (refine KT.run _ ?_) | (refine AWp.seqH fun KC => ?_) | (refine AWp.region ?_) | (refine AWp.ret ?_) | (refine aops_callH rfl fun kC => ?_) | (refine AWp.condB ?_) | (simp only [bse, wk, tys, storeH_ptr, Nat.reduceEqDiff, ↓reduceIte, reduceCtorEq, Nat.reduceAdd, Nat.reduceLeDiff, Int.reduceBEq, Int.reduceLT, Int.reduceLE, Int.reduceEq, ne_eq, not_false_eq_true, Nat.reduceMul, refE_val, refE_sz, outE_val, outE_sz, txE_val, txE_sz, ruleE_val, ruleE_sz, Int.cast_ofNat_Int, *]))
    all_goals exact eout_F
theorem l3ParseF4 (t w0 wm : List UInt8) (ws : List (List UInt8)) (hw : cutL 32 t = w0 :: wm :: ws) (h1 : w0 = [106, 111, 105, 110] ∨ w0 = [108, 101, 97, 118, 101]) (hm : (numD 3 wm).2 = false ∨ ((numD 3 wm).2 = true ∧ ws.length < 2)) (ht : t.length ≤ 300) : ECalls Tryz.prog 55 [.string (bs t)] (RT none) := by
  have hsp := spec_l2Cut t 32 32 rfl (by omega)
  have hlt := cutL_mem 32 t
  rw [hw] at hlt
  have hnm : PCalls Tryz.prog 68 [.string (bs wm), .int .i64 3] (.tuple #[.int .i64 (numD 3 wm).1, .bool (numD 3 wm).2]) := spec_l2Number wm 3 (by omega) (by have := hlt wm (by simp); omega)
  obtain ⟨W, hW⟩ : ∃ W, W = cutW 32 t := ⟨_, rfl⟩
  have hWe : W = bs w0 :: bs wm :: ws.map bs := by rw [hW]; unfold cutW; rw [hw]; rfl
  rw [← hW] at hsp
  have ix0 : ∀ H : AH, idxV Tryz.prog H 22 (islE strE W) (.int .i64 0) = some (ip (.string (bs w0) :: strE.flat (bs wm :: ws.map bs))) := fun H => by rw [hWe]; exact ix_cons H _ _
  have ix1 : ∀ H : AH, idxV Tryz.prog H 22 (islE strE W) (.int .i64 1) = some (ip (.string (bs wm) :: strE.flat (ws.map bs))) := fun H => by
    rw [hWe]; exact idxV_isl (P := Tryz.prog) (H := H) (n := (bs w0 :: bs wm :: ws.map bs).length) (k := 1) (kd := .i64) (cs := strE.flat (bs w0 :: bs wm :: ws.map bs)) elZ22 (by simp)
  have ld := ld_str
  have e2 : (bs w0 == ⟨#[106, 111, 105, 110]⟩) = (w0 == [106, 111, 105, 110]) := bs_beq _ _
  have e3 : (bs w0 == ⟨#[108, 101, 97, 118, 101]⟩) = (w0 == [108, 101, 97, 118, 101]) := bs_beq _ _
  have hlen : ¬ (W.length : Int) < 2 := by rw [hWe]; simp; omega
  have hlen4 : ws.length < 2 → (W.length : Int) < 4 := fun h => by rw [hWe]; simp; omega
  have hw4 : IntKind.i64.wrap (2 + 2) = 4 := by decide
  have hq : ((bs w0 == ⟨#[106, 111, 105, 110]⟩) = true ∧ (bs w0 == ⟨#[108, 101, 97, 118, 101]⟩) = false) ∨ ((bs w0 == ⟨#[106, 111, 105, 110]⟩) = false ∧ (bs w0 == ⟨#[108, 101, 97, 118, 101]⟩) = true) := by
    rw [e2, e3]
    rcases h1 with rfl | rfl
    · exact .inl ⟨rfl, rfl⟩
    · exact .inr ⟨rfl, rfl⟩
  generalize numD 3 wm = Q at hnm hm
  obtain ⟨m, ok⟩ := Q
  dsimp only at hnm hm
  clear hWe hW hw h1 e2 e3 hlt
  rcases hm with rfl | ⟨rfl, hl⟩
  · clear hlen4
    rcases hq with ⟨hq, hq2⟩ | ⟨hq, hq2⟩
    all_goals
      unfold ECalls
      refine ACalls.enter (n := 136) (rs := [.cell 2 45, .tmp 3]) Tryz.func55 rfl rfl rfl (by kernel_rfl) (by kernel_rfl) (by kernel_rfl) (Nat.le_of_ble_eq_true rfl) ?_
      repeat' (first | (refine ACalls.start ?_; first | (refine ACalls.ofJi (hsp) rfl ?_) | (refine ACalls.ofJi (hnm) rfl ?_)) | (refine KV.run _ ?_) | (refine KT.run _ ?_) | (refine AWp.seqH fun KC => ?_) | (refine AWp.region ?_) | (refine AWp.ret ?_) | (refine AWp.skip ?_) | (refine aops_callH rfl fun kC => ?_) | (refine AWp.condB ?_) | (simp only [bse, wk, tys, storeH_ptr, Nat.reduceEqDiff, ↓reduceIte, reduceCtorEq, Nat.reduceAdd, Nat.reduceLeDiff, Int.reduceBEq, Int.reduceLT, Int.reduceLE, Int.reduceEq, ne_eq, not_false_eq_true, Nat.reduceMul, refE_val, refE_sz, outE_val, outE_sz, txE_val, txE_sz, ruleE_val, ruleE_sz, Int.cast_ofNat_Int, *]))
      all_goals exact eout_F
  · have hl4 := hlen4 hl
    clear hlen4 hl
    rcases hq with ⟨hq, hq2⟩ | ⟨hq, hq2⟩
    all_goals
      unfold ECalls
      refine ACalls.enter (n := 136) (rs := [.cell 2 45, .tmp 3]) Tryz.func55 rfl rfl rfl (by kernel_rfl) (by kernel_rfl) (by kernel_rfl) (Nat.le_of_ble_eq_true rfl) ?_
      repeat' (first | (refine ACalls.start ?_; first | (refine ACalls.ofJi (hsp) rfl ?_) | (refine ACalls.ofJi (hnm) rfl ?_)) | (refine KV.run _ ?_) | (refine KT.run _ ?_) | (refine AWp.seqH fun KC => ?_) | (refine AWp.region ?_) | (refine AWp.ret ?_) | (refine AWp.skip ?_) | (refine aops_callH rfl fun kC => ?_) | (refine AWp.condB ?_) | (simp only [bse, wk, tys, storeH_ptr, Nat.reduceEqDiff, ↓reduceIte, reduceCtorEq, Nat.reduceAdd, Nat.reduceLeDiff, Int.reduceBEq, Int.reduceLT, Int.reduceLE, Int.reduceEq, ne_eq, not_false_eq_true, Nat.reduceMul, refE_val, refE_sz, outE_val, outE_sz, txE_val, txE_sz, ruleE_val, ruleE_sz, Int.cast_ofNat_Int, *]))
      all_goals exact eout_F
end Go.BM
