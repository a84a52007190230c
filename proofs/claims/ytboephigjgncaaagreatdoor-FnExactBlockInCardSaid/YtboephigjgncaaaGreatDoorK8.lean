/- A block read out of a text: the reference. -/
import Derived.Test.YtboephigjgncaaaGreatDoorK2
import Derived.Test.YtboephigjgncaaaGreatDoorK3
set_option linter.unusedVariables false
set_option linter.unusedSimpArgs false
set_option maxRecDepth 100000
set_option maxHeartbeats 4000000
namespace Go.BM
open Go.Proofs Go.RowKit
attribute [local irreducible] ACalls AWp aops qops optK optP cK gateA condK mops qcallK PCalls loadV fldV idxV lenV slV storeH binS
def blkZ : TBlock := ⟨0, 0, 0, []⟩
def parX (w1 w2 w3 w4 : List UInt8) : TBlock := ⟨(numD 2 w1).1, (numD 2 w2).1, (numD 3 w3).1, if w4 = [45] then [] else (cutL 43 w4).map fun w => (numD 2 w).1⟩
def parOk (w1 w2 w3 w4 : List UInt8) : Bool := (numD 2 w1).2 && (numD 2 w2).2 && (numD 3 w3).2 && (if w4 = [45] then true else (cutL 43 w4).all fun w => (numD 2 w).2)
def parB (t : List UInt8) : TBlock × Bool :=
  match cutL 32 t with
  | [w0, w1, w2, w3, w4] => if w0 = [98, 108, 111, 99, 107] then (parX w1 w2 w3 w4, parOk w1 w2 w3 w4 && (blockFault (parX w1 w2 w3 w4) == 0)) else (blkZ, false)
  | _ => (blkZ, false)
theorem all_step {α : Type} (q : α → Bool) (xs : List α) (k : Nat) (hk : k < xs.length) : (xs.take (k + 1)).all q = ((xs.take k).all q && q xs[k]) := by
  rw [← take_next xs k hk, List.all_append]
  simp
theorem bor_blkZ {H : AH} (b : Bool) : Bor H (.tuple #[.agg #[.int .i64 0, .int .i64 0, .int .i64 0, .slice none 0 0], .bool b]) (.tuple #[blockE.val blkZ, .bool b]) :=
  Bor.tupleL (.cons (Bor.aggL (.cons (.same _ (.flat _ rfl)) (.cons (.same _ (.flat _ rfl)) (.cons (.same _ (.flat _ rfl)) (.cons .nil .nil))))) (.cons (.same _ (.flat _ rfl)) .nil))
theorem spec_l7Parse (t : List UInt8) (ht : t.length ≤ 300) : PCalls Tryz.prog 41 [.string (bs t)] (.tuple #[blockE.val (parB t).1, .bool (parB t).2]) := by
  have hsp := spec_l2Cut t 32 32 rfl (by omega)
  have hcl : (cutW 32 t).length = (cutL 32 t).length := List.length_map ..
  by_cases h5 : ((cutL 32 t).length : Int) = 5
  · obtain ⟨w0, w1, w2, w3, w4, hw⟩ : ∃ w0 w1 w2 w3 w4, cutL 32 t = [w0, w1, w2, w3, w4] := by
      match hq : cutL 32 t, h5 with
      | [w0, w1, w2, w3, w4], _ => exact ⟨w0, w1, w2, w3, w4, rfl⟩
      | [], h => simp at h
      | [_], h => simp at h
      | [_, _], h => simp at h
      | [_, _, _], h => simp at h
      | [_, _, _, _], h => simp at h
      | _ :: _ :: _ :: _ :: _ :: _ :: _, h => simp at h; omega
    have hW : cutW 32 t = [bs w0, bs w1, bs w2, bs w3, bs w4] := by unfold cutW; rw [hw]; rfl
    rw [hW] at hsp hcl
    have h55 : (((5 : Nat) : Int) == 5) = true := rfl
    have ix0 : ∀ H : AH, idxV Tryz.prog H 22 (islE strE [bs w0, bs w1, bs w2, bs w3, bs w4]) (.int .i64 0) = some (ip [.string (bs w0), .string (bs w1), .string (bs w2), .string (bs w3), .string (bs w4)]) := fun H => idxV_isl (P := Tryz.prog) (H := H) (n := 5) (k := 0) (kd := .i64) (cs := strE.flat [bs w0, bs w1, bs w2, bs w3, bs w4]) elZ22 (by omega)
    have ix1 : ∀ H : AH, idxV Tryz.prog H 22 (islE strE [bs w0, bs w1, bs w2, bs w3, bs w4]) (.int .i64 1) = some (ip [.string (bs w1), .string (bs w2), .string (bs w3), .string (bs w4)]) := fun H => idxV_isl (P := Tryz.prog) (H := H) (n := 5) (k := 1) (kd := .i64) (cs := strE.flat [bs w0, bs w1, bs w2, bs w3, bs w4]) elZ22 (by omega)
    have ix2 : ∀ H : AH, idxV Tryz.prog H 22 (islE strE [bs w0, bs w1, bs w2, bs w3, bs w4]) (.int .i64 2) = some (ip [.string (bs w2), .string (bs w3), .string (bs w4)]) := fun H => idxV_isl (P := Tryz.prog) (H := H) (n := 5) (k := 2) (kd := .i64) (cs := strE.flat [bs w0, bs w1, bs w2, bs w3, bs w4]) elZ22 (by omega)
    have ix3 : ∀ H : AH, idxV Tryz.prog H 22 (islE strE [bs w0, bs w1, bs w2, bs w3, bs w4]) (.int .i64 3) = some (ip [.string (bs w3), .string (bs w4)]) := fun H => idxV_isl (P := Tryz.prog) (H := H) (n := 5) (k := 3) (kd := .i64) (cs := strE.flat [bs w0, bs w1, bs w2, bs w3, bs w4]) elZ22 (by omega)
    have ix4 : ∀ H : AH, idxV Tryz.prog H 22 (islE strE [bs w0, bs w1, bs w2, bs w3, bs w4]) (.int .i64 4) = some (ip [.string (bs w4)]) := fun H => idxV_isl (P := Tryz.prog) (H := H) (n := 5) (k := 4) (kd := .i64) (cs := strE.flat [bs w0, bs w1, bs w2, bs w3, bs w4]) elZ22 (by omega)
    have ld : ∀ (H : AH) (w : ByteArray) (l : List Value), loadV Tryz.prog H 9 (ip (.string w :: l)) = some (.string w) := fun H w l => load_ip1 (P := Tryz.prog) (H := H) (T := 9) (p := 0) (cs := .string w :: l) lay9 rfl
    have hc0 : (bs w0 == ⟨#[98, 108, 111, 99, 107]⟩) = (w0 == [98, 108, 111, 99, 107]) := bs_beq w0 [98, 108, 111, 99, 107]
    by_cases h0 : w0 = [98, 108, 111, 99, 107]
    · have hr : parB t = (parX w1 w2 w3 w4, parOk w1 w2 w3 w4 && (blockFault (parX w1 w2 w3 w4) == 0)) := by
        unfold parB
        rw [hw]
        dsimp only
        rw [if_pos h0]
      rw [hr]
      have hc0' : (bs w0 == ⟨#[98, 108, 111, 99, 107]⟩) = true := by rw [hc0]; simpa using h0
      clear hc0 h0 hr hcl h5 hW
      have hlt := cutL_mem 32 t
      rw [hw] at hlt
      have m1 := spec_l2Number w1 2 (by omega) (by have := hlt w1 (by simp); omega)
      have m2 := spec_l2Number w2 2 (by omega) (by have := hlt w2 (by simp); omega)
      have m3 := spec_l2Number w3 3 (by omega) (by have := hlt w3 (by simp); omega)
      have hsc := spec_l2Cut w4 43 43 rfl (by have := hlt w4 (by simp); omega)
      have hc4 : (bs w4 == ⟨#[45]⟩) = (w4 == [45]) := bs_beq w4 [45]
      have hwl : ∀ w ∈ cutL 43 w4, w.length ≤ 300 := fun w hw => by have := cutL_mem 43 w4 w hw; have := hlt w4 (by simp); omega
      have hln : (cutL 43 w4).length ≤ 301 := by have := cutL_len 43 w4; have := hlt w4 (by simp); omega
      have hWl : (cutW 43 w4).length = (cutL 43 w4).length := List.length_map ..
      have hWk : ∀ (k : Nat) (hk : k < (cutL 43 w4).length), (cutW 43 w4)[k]? = some (bs (cutL 43 w4)[k]) := fun k hk => by unfold cutW; rw [List.getElem?_map, List.getElem?_eq_getElem hk]; rfl
      clear hlt hw ht
      unfold parX parOk
      generalize numD 2 w1 = r1 at m1 ⊢
      generalize numD 2 w2 = r2 at m2 ⊢
      generalize numD 3 w3 = r3 at m3 ⊢
      obtain ⟨x1, o1⟩ := r1
      obtain ⟨x2, o2⟩ := r2
      obtain ⟨x3, o3⟩ := r3
      dsimp only at m1 m2 m3 ⊢
      by_cases h45 : w4 = [45]
      · rw [if_pos h45, if_pos h45]
        have hc4' : (bs w4 == ⟨#[45]⟩) = true := by rw [hc4]; simpa using h45
        clear hc4 h45 hWl hWk hwl hln
        have hfl := spec_l7Fault ⟨x1, x2, x3, []⟩ (by simp)
        obtain ⟨F, hFe⟩ : ∃ F, F = blockFault ⟨x1, x2, x3, []⟩ := ⟨_, rfl⟩
        rw [← hFe] at hfl ⊢
        clear hFe
        obtain ⟨f0, hf0⟩ : ∃ f0, f0 = (F == 0) := ⟨_, rfl⟩
        rw [← hf0]
        have hf0' := hf0.symm
        clear hf0
        dsimp only at hfl
        have hpos : (0 : Int) < ((cutW 43 w4).length : Int) := by
          have := cutL_ne 43 w4
          have h2 : (cutW 43 w4).length = (cutL 43 w4).length := List.length_map ..
          have h3 : 0 < (cutL 43 w4).length := List.length_pos_iff.2 this
          omega
        generalize cutW 43 w4 = ws at hsc hpos
        have h4 : (o1 = false) ∨ (o1 = true ∧ o2 = false) ∨ (o1 = true ∧ o2 = true ∧ o3 = false) ∨ (o1 = true ∧ o2 = true ∧ o3 = true) := by cases o1 <;> cases o2 <;> cases o3 <;> simp
        rcases h4 with rfl | ⟨rfl, rfl⟩ | ⟨rfl, rfl, rfl⟩ | ⟨rfl, rfl, rfl⟩
        all_goals
          simp only [Bool.false_and, Bool.and_false, Bool.true_and, Bool.and_true]
          refine PCalls.of ?_; refine ACalls.enter (n := 101) (rs := [.cell 2 29, .tmp 3]) Tryz.func41 rfl rfl rfl (by kernel_rfl) (by kernel_rfl) (by kernel_rfl) (Nat.le_of_ble_eq_true rfl) ?_
          repeat' (first | (refine AWp.mixedT (id := 16) (.cons 0 0 (.cons 1 0 (.cons 2 0 (.cons 3 1 (.alt 4 1 (.alt 5 1 (.cons 6 2 (.cons 7 0 .nil)) (.cons 6 2 (.cons 5 0 (.cons 7 0 .nil)))) (.cons 6 2 (.cons 4 0 (.cons 5 0 (.cons 7 0 .nil))))))))) (by kernel_rfl) (by kernel_rfl) ?_) | (refine mopsT_step0 rfl rfl fun KC => ?_) | (refine mopsT_step1 rfl fun KC => ?_) | (refine mopsT_step2 rfl fun KC => ?_) | (refine mopsT_alt1 rfl (fun KC => ?_) ?_) | (refine mopsT_alt2 rfl (fun KC => ?_) ?_) | (refine ACalls.start ?_; first | (refine ACalls.ofJi (hsp) rfl ?_) | (refine ACalls.ofJi (m1) rfl ?_) | (refine ACalls.ofJi (m2) rfl ?_) | (refine ACalls.ofJi (m3) rfl ?_) | (refine ACalls.ofJi (hsc) rfl ?_)) | (refine qcall_start ?_; first | (refine qcallFi (hsp) rfl ?_ ?_; (focus ((first | exact rfl | (simp [pureV, flatV, blockE_val, blockE_sz, Int.cast_ofNat_Int]; done))))) | (refine qcallFi (m1) rfl ?_ ?_; (focus ((first | exact rfl | (simp [pureV, flatV, blockE_val, blockE_sz, Int.cast_ofNat_Int]; done))))) | (refine qcallFi (m2) rfl ?_ ?_; (focus ((first | exact rfl | (simp [pureV, flatV, blockE_val, blockE_sz, Int.cast_ofNat_Int]; done))))) | (refine qcallFi (m3) rfl ?_ ?_; (focus ((first | exact rfl | (simp [pureV, flatV, blockE_val, blockE_sz, Int.cast_ofNat_Int]; done))))) | (refine qcallFi (hsc) rfl ?_ ?_; (focus ((first | exact rfl | (simp [pureV, flatV, blockE_val, blockE_sz, Int.cast_ofNat_Int]; done)))))) | (refine KV.run _ ?_) | (refine KQ.run _ ?_) | (refine KT.run _ ?_) | (refine AWp.seqH fun KC => ?_) | (refine AWp.block ?_) | (refine AWp.region ?_) | (refine mops_step0 rfl rfl fun KC => ?_) | (refine mops_step1 rfl fun KC => ?_) | (refine mops_step2 rfl fun KC => ?_) | (refine AWp.ret ?_) | (refine AWp.skip ?_) | (refine AWp.exit ?_) | (refine aops_callH rfl fun kC => ?_) | (refine qops_callH rfl fun kC => ?_) | (refine AWp.condB ?_) | (simp only [bse, wk, tys, storeH_ptr, Nat.reduceEqDiff, ↓reduceIte, reduceCtorEq, Nat.reduceAdd, Nat.reduceLeDiff, Int.reduceBEq, Int.reduceLT, Int.reduceLE, Int.reduceEq, ne_eq, not_false_eq_true, Nat.reduceMul, blockE_val, blockE_sz, Int.cast_ofNat_Int, *]) | (refine condK_bool (fun hb => ?_) (fun hb => ?_) <;> ((try simp only [Bool.not_eq_true', Bool.not_eq_false'] at hb) <;> (try (have hbe := of_decide_eq_true hb)) <;> (try (have hbe := eq_of_beq hb)))) | (refine aops_partB ?_) | (refine qops_partB ?_))
          refine AWp.loopH [65, 66, 67, 68, 69, 70, 71, 72, 73, 74, 78, 79, 80, 81, 82, 77, 83, 84, 15, 16, 85, 86, 87, 88, 12, 89, 90, 91, 92, 93, 94, 75, 76, 14] (fun m e2 H2 => e2 14 = .int .i64 0 ∧ e2 12 = _ ∧ H2 = _) 0 ⟨rfl, rfl, rfl⟩ ?_
          rintro m e2 H2 hA ⟨e14, e12, rfl⟩ hJ
          have a2 := hA 2 rfl; have a3 := hA 3 rfl; have a4 := hA 4 rfl; have a11 := hA 11 rfl; have a13 := hA 13 rfl; try simp only [bse, wk, tys, storeH_ptr, Nat.reduceEqDiff, ↓reduceIte, reduceCtorEq, Nat.reduceAdd, Nat.reduceLeDiff, Int.reduceBEq, Int.reduceLT, Int.reduceLE, Int.reduceEq, ne_eq, not_false_eq_true, Nat.reduceMul] at a2 a3 a4 a11 a13; clear hA
          have hSM : SlM 2 2 intE [] none 0 0 [] := SlM.nil _ _ _ _
          have hpk : ∀ (B : Nat) (b0 : Blk), ACalls Tryz.prog B 69 [.pointer (some ⟨1, 0, some 0⟩)] (b0 :: ⟨29, 0, [.int .i64 x1, .int .i64 x2, .int .i64 x3, .slice none 0 0], 0, true⟩ :: []) fun d H2 => d = .int .i64 F ∧ (b0 :: ⟨29, 0, [.int .i64 x1, .int .i64 x2, .int .i64 x3, .slice none 0 0], 0, true⟩ :: []) = H2 := fun B b0 =>
            ACalls.ofP hfl (.cons (Bor.ptrL (blk := ⟨29, 0, [.int .i64 x1, .int .i64 x2, .int .i64 x3, .slice none 0 0], 0, true⟩) rfl rfl rfl ⟨_, .cons (.same _ (.flat _ rfl)) (.cons (.same _ (.flat _ rfl)) (.cons (.same _ (.flat _ rfl)) (.cons (hSM.bor [b0, _] rfl) .nil))), rfl⟩ (by simp)) .nil) rfl ⟨rfl, rfl⟩
          have hbor : ∀ b0 b1 : Blk, Bor (b0 :: b1 :: []) (.slice none 0 0) (islE intE []) := fun b0 b1 => hSM.bor [b0, b1] rfl
          clear hSM hfl
          repeat' (first | (refine AWp.mixedT (id := 16) (.cons 0 0 (.cons 1 0 (.cons 2 0 (.cons 3 1 (.alt 4 1 (.alt 5 1 (.cons 6 2 (.cons 7 0 .nil)) (.cons 6 2 (.cons 5 0 (.cons 7 0 .nil)))) (.cons 6 2 (.cons 4 0 (.cons 5 0 (.cons 7 0 .nil))))))))) (by kernel_rfl) (by kernel_rfl) ?_) | (refine mopsT_step0 rfl rfl fun KC => ?_) | (refine mopsT_step1 rfl fun KC => ?_) | (refine mopsT_step2 rfl fun KC => ?_) | (refine mopsT_alt1 rfl (fun KC => ?_) ?_) | (refine mopsT_alt2 rfl (fun KC => ?_) ?_) | (refine ACalls.start ?_; first | (refine ACalls.get (hpk _ _) (by first | exact Nat.le_refl _ | exact Nat.zero_le _ | (simp only [List.length_append, List.length_cons, List.length_nil]; omega) | (simp only [List.length_set]; omega) | omega) (by first | exact Nat.le_refl _ | exact Nat.zero_le _ | (simp only [List.length_append, List.length_cons, List.length_nil]; omega) | (simp only [List.length_set]; omega) | omega) ?_; rintro _ _ ⟨rfl, rfl⟩)) | (refine KV.run _ ?_) | (refine KQ.run _ ?_) | (refine KT.run _ ?_) | (refine AWp.seqH fun KC => ?_) | (refine AWp.block ?_) | (refine AWp.region ?_) | (refine mops_step0 rfl rfl fun KC => ?_) | (refine mops_step1 rfl fun KC => ?_) | (refine mops_step2 rfl fun KC => ?_) | (refine AWp.ret ?_) | (refine AWp.skip ?_) | (refine AWp.exit ?_) | (refine aops_callH rfl fun kC => ?_) | (refine qops_callH rfl fun kC => ?_) | (refine AWp.condB ?_) | (simp only [bse, wk, tys, storeH_ptr, Nat.reduceEqDiff, ↓reduceIte, reduceCtorEq, Nat.reduceAdd, Nat.reduceLeDiff, Int.reduceBEq, Int.reduceLT, Int.reduceLE, Int.reduceEq, ne_eq, not_false_eq_true, Nat.reduceMul, blockE_val, blockE_sz, Int.cast_ofNat_Int, *]) | (refine condK_bool (fun hb => ?_) (fun hb => ?_) <;> ((try simp only [Bool.not_eq_true', Bool.not_eq_false'] at hb) <;> (try (have hbe := of_decide_eq_true hb)) <;> (try (have hbe := eq_of_beq hb)))) | (refine aops_partB ?_) | (refine qops_partB ?_))
          all_goals exact Bor.tupleL (.cons (Bor.aggL (.cons (.same _ (.flat _ rfl)) (.cons (.same _ (.flat _ rfl)) (.cons (.same _ (.flat _ rfl)) (.cons (hbor _ _) .nil))))) (.cons (.same _ (.flat _ rfl)) .nil))
      · rw [if_neg h45, if_neg h45]
        have hc4' : (bs w4 == ⟨#[45]⟩) = false := by rw [hc4]; simpa using h45
        clear hc4 h45
        have hlen : ((cutW 43 w4).length : Nat) = (cutL 43 w4).length := hWl
        generalize hlw : cutL 43 w4 = lw at *
        generalize cutW 43 w4 = ws at *
        clear hlw
        have hnum : ∀ (k : Nat) (hk : k < lw.length), PCalls Tryz.prog 68 [.string (bs lw[k]), .int .i64 2] (.tuple #[.int .i64 (numD 2 lw[k]).1, .bool (numD 2 lw[k]).2]) := fun k hk => spec_l2Number lw[k] 2 (by omega) (by have := hwl _ (List.getElem_mem hk); omega)
        have hfl := spec_l7Fault ⟨x1, x2, x3, lw.map fun w => (numD 2 w).1⟩ (by simp; omega)
        obtain ⟨F, hFe⟩ : ∃ F, F = blockFault ⟨x1, x2, x3, lw.map fun w => (numD 2 w).1⟩ := ⟨_, rfl⟩
        rw [← hFe] at hfl ⊢
        clear hFe hwl
        obtain ⟨f0, hf0⟩ : ∃ f0, f0 = (F == 0) := ⟨_, rfl⟩
        rw [← hf0]
        have hf0' := hf0.symm
        clear hf0
        dsimp only at hfl
        have hlenH : Hid (ws.length = lw.length) := hlen
        clear hlen hWl
        have hws : ∀ (k : Nat) (hk : k < lw.length) (hk2 : k < ws.length), ws[k] = bs lw[k] := fun k hk hk2 => by
          have := hWk k hk
          rw [List.getElem?_eq_getElem hk2] at this
          injection this
        obtain ⟨c0, hc0e⟩ : ∃ c0, c0 = (o1 && o2 && o3) := ⟨_, rfl⟩
        rw [← hc0e]
        obtain ⟨r0, hr0⟩ : ∃ r0, r0 = (c0 && lw.all fun w => (numD 2 w).2) := ⟨_, rfl⟩
        rw [← hr0]
        have hr0H : Hid _ := hr0
        clear hr0
        clear hWk
        have h4 : (o1 = false) ∨ (o1 = true ∧ o2 = false) ∨ (o1 = true ∧ o2 = true ∧ o3 = false) ∨ (o1 = true ∧ o2 = true ∧ o3 = true) := by cases o1 <;> cases o2 <;> cases o3 <;> simp
        rcases h4 with rfl | ⟨rfl, rfl⟩ | ⟨rfl, rfl, rfl⟩ | ⟨rfl, rfl, rfl⟩
        all_goals
          simp only [Bool.false_and, Bool.and_false, Bool.true_and, Bool.and_true] at hc0e
          have hc0H : Hid _ := hc0e
          clear hc0e
          refine PCalls.of ?_; refine ACalls.enter (n := 101) (rs := [.cell 2 29, .tmp 3]) Tryz.func41 rfl rfl rfl (by kernel_rfl) (by kernel_rfl) (by kernel_rfl) (Nat.le_of_ble_eq_true rfl) ?_
          repeat' (first | (refine AWp.mixedT (id := 16) (.cons 0 0 (.cons 1 0 (.cons 2 0 (.cons 3 1 (.alt 4 1 (.alt 5 1 (.cons 6 2 (.cons 7 0 .nil)) (.cons 6 2 (.cons 5 0 (.cons 7 0 .nil)))) (.cons 6 2 (.cons 4 0 (.cons 5 0 (.cons 7 0 .nil))))))))) (by kernel_rfl) (by kernel_rfl) ?_) | (refine mopsT_step0 rfl rfl fun KC => ?_) | (refine mopsT_step1 rfl fun KC => ?_) | (refine mopsT_step2 rfl fun KC => ?_) | (refine mopsT_alt1 rfl (fun KC => ?_) ?_) | (refine mopsT_alt2 rfl (fun KC => ?_) ?_) | (refine ACalls.start ?_; first | (refine ACalls.ofJi (hsp) rfl ?_) | (refine ACalls.ofJi (m1) rfl ?_) | (refine ACalls.ofJi (m2) rfl ?_) | (refine ACalls.ofJi (m3) rfl ?_) | (refine ACalls.ofJi (hsc) rfl ?_)) | (refine qcall_start ?_; first | (refine qcallFi (hsp) rfl ?_ ?_; (focus ((first | exact rfl | (simp [pureV, flatV, blockE_val, blockE_sz, Int.cast_ofNat_Int]; done))))) | (refine qcallFi (m1) rfl ?_ ?_; (focus ((first | exact rfl | (simp [pureV, flatV, blockE_val, blockE_sz, Int.cast_ofNat_Int]; done))))) | (refine qcallFi (m2) rfl ?_ ?_; (focus ((first | exact rfl | (simp [pureV, flatV, blockE_val, blockE_sz, Int.cast_ofNat_Int]; done))))) | (refine qcallFi (m3) rfl ?_ ?_; (focus ((first | exact rfl | (simp [pureV, flatV, blockE_val, blockE_sz, Int.cast_ofNat_Int]; done))))) | (refine qcallFi (hsc) rfl ?_ ?_; (focus ((first | exact rfl | (simp [pureV, flatV, blockE_val, blockE_sz, Int.cast_ofNat_Int]; done)))))) | (refine KV.run _ ?_) | (refine KQ.run _ ?_) | (refine KT.run _ ?_) | (refine AWp.seqH fun KC => ?_) | (refine AWp.block ?_) | (refine AWp.region ?_) | (refine mops_step0 rfl rfl fun KC => ?_) | (refine mops_step1 rfl fun KC => ?_) | (refine mops_step2 rfl fun KC => ?_) | (refine AWp.ret ?_) | (refine AWp.skip ?_) | (refine AWp.exit ?_) | (refine aops_callH rfl fun kC => ?_) | (refine qops_callH rfl fun kC => ?_) | (refine AWp.condB ?_) | (simp only [bse, wk, tys, storeH_ptr, Nat.reduceEqDiff, ↓reduceIte, reduceCtorEq, Nat.reduceAdd, Nat.reduceLeDiff, Int.reduceBEq, Int.reduceLT, Int.reduceLE, Int.reduceEq, ne_eq, not_false_eq_true, Nat.reduceMul, blockE_val, blockE_sz, Int.cast_ofNat_Int, *]) | (refine condK_bool (fun hb => ?_) (fun hb => ?_) <;> ((try simp only [Bool.not_eq_true', Bool.not_eq_false'] at hb) <;> (try (have hbe := of_decide_eq_true hb)) <;> (try (have hbe := eq_of_beq hb)))) | (refine aops_partB ?_) | (refine qops_partB ?_))
          refine AWp.loopH [65, 66, 67, 68, 69, 70, 71, 72, 73, 74, 78, 79, 80, 81, 82, 77, 83, 84, 15, 16, 85, 86, 87, 88, 12, 89, 90, 91, 92, 93, 94, 75, 76, 14] (fun m e2 H2 => ∃ (k : Nat) (acc : Bool) (a : Option Addr) (n v : Nat) (M : AH), k ≤ lw.length ∧ m = lw.length - k ∧ e2 14 = .int .i64 k ∧ e2 12 = .bool acc ∧ H2 = ⟨29, 0, [.int .i64 0, .int .i64 0, .int .i64 0, .slice none 0 0], 0, true⟩ :: ⟨29, 0, [.int .i64 x1, .int .i64 x2, .int .i64 x3, .slice a n v], 0, true⟩ :: M ∧ Hid (SlM 2 2 intE M a n v ((lw.take k).map fun w => (numD 2 w).1)) ∧ Hid (acc = (c0 && (lw.take k).all fun w => (numD 2 w).2))) lw.length ⟨0, _, none, 0, 0, [], by omega, by omega, rfl, rfl, rfl, SlM.nil _ _ _ _, by unfold Hid; rw [hc0H.out]; rfl⟩ ?_
          rintro m e2 H2 hA ⟨k, acc, a, n, v, M, hk, rfl, e14, e12, rfl, hM, hacc⟩ hJ
          have a2 := hA 2 rfl; have a3 := hA 3 rfl; have a4 := hA 4 rfl; have a11 := hA 11 rfl; have a13 := hA 13 rfl; try simp only [bse, wk, tys, storeH_ptr, Nat.reduceEqDiff, ↓reduceIte, reduceCtorEq, Nat.reduceAdd, Nat.reduceLeDiff, Int.reduceBEq, Int.reduceLT, Int.reduceLE, Int.reduceEq, ne_eq, not_false_eq_true, Nat.reduceMul] at a2 a3 a4 a11 a13; clear hA
          by_cases hkl : k < lw.length
          · have hlt' : (k : Int) < (ws.length : Int) := by have := hlenH.out; omega
            have hkw : k < ws.length := by have := hlenH.out; omega
            have hw := wr_succ (k := k) (by omega)
            have hn := hnum k hkl
            rw [← hws k hkl hkw] at hn
            have hst : Hid ((acc && (numD 2 lw[k]).2) = (c0 && (lw.take (k + 1)).all fun w => (numD 2 w).2)) := by unfold Hid; rw [all_step _ _ _ hkl, ← Bool.and_assoc, ← hacc.out]
            have hmp := map_step (fun w => (numD 2 w).1) lw k hkl
            have hyl : ((lw.take k).map fun w => (numD 2 w).1).length = k := by rw [List.length_map, List.length_take]; omega
            obtain ⟨a', n', v', M', hap, hM', _, _⟩ := hM.out.app (P := Tryz.prog) (B := 0) [⟨29, 0, [.int .i64 0, .int .i64 0, .int .i64 0, .slice none 0 0], 0, true⟩, ⟨29, 0, [.int .i64 x1, .int .i64 x2, .int .i64 x3, .slice a n v], 0, true⟩] rfl (M.length + 1 + 1) (by omega) elZ27 elZ27 zOk27 (Nat.zero_le _) (numD 2 lw[k]).1 (by omega) (by omega)
            simp only [intE_sz, intE_val, cells_int, List.cons_append, List.nil_append] at hap
            rw [← hmp] at hM'
            have hM2 : Hid _ := hM'
            clear hM' hM hmp hyl hacc hws hnum hfl
            generalize (numD 2 lw[k]).1 = y at hn hap
            generalize (numD 2 lw[k]).2 = g at hn hst
            have h3 : acc = false ∨ (acc = true ∧ g = false) ∨ (acc = true ∧ g = true) := by cases acc <;> cases g <;> simp
            rcases h3 with rfl | ⟨rfl, rfl⟩ | ⟨rfl, rfl⟩
            all_goals
              simp only [Bool.false_and, Bool.and_false, Bool.true_and, Bool.and_true] at hst
              repeat' (first | (refine AWp.mixedT (id := 16) (.cons 0 0 (.cons 1 0 (.cons 2 0 (.cons 3 1 (.alt 4 1 (.alt 5 1 (.cons 6 2 (.cons 7 0 .nil)) (.cons 6 2 (.cons 5 0 (.cons 7 0 .nil)))) (.cons 6 2 (.cons 4 0 (.cons 5 0 (.cons 7 0 .nil))))))))) (by kernel_rfl) (by kernel_rfl) ?_) | (refine mopsT_step0 rfl rfl fun KC => ?_) | (refine mopsT_step1 rfl fun KC => ?_) | (refine mopsT_step2 rfl fun KC => ?_) | (refine mopsT_alt1 rfl (fun KC => ?_) ?_) | (refine mopsT_alt2 rfl (fun KC => ?_) ?_) | (refine ACalls.start ?_; first | (refine ACalls.ofJi (hn) rfl ?_)) | (refine qcall_start ?_; first | (refine qcallFi (hn) rfl ?_ ?_; (focus ((first | exact rfl | (simp [pureV, flatV, blockE_val, blockE_sz, Int.cast_ofNat_Int]; done)))))) | (refine KV.run _ ?_) | (refine KQ.run _ ?_) | (refine KT.run _ ?_) | (refine AWp.seqH fun KC => ?_) | (refine AWp.block ?_) | (refine AWp.region ?_) | (refine mops_step0 rfl rfl fun KC => ?_) | (refine mops_step1 rfl fun KC => ?_) | (refine mops_step2 rfl fun KC => ?_) | (refine AWp.ret ?_) | (refine AWp.skip ?_) | (refine AWp.exit ?_) | (refine aops_callH rfl fun kC => ?_) | (refine qops_callH rfl fun kC => ?_) | (refine AWp.condB ?_) | (simp only [bse, wk, tys, storeH_ptr, Nat.reduceEqDiff, ↓reduceIte, reduceCtorEq, Nat.reduceAdd, Nat.reduceLeDiff, Int.reduceBEq, Int.reduceLT, Int.reduceLE, Int.reduceEq, ne_eq, not_false_eq_true, Nat.reduceMul, blockE_val, blockE_sz, Int.cast_ofNat_Int, *]) | (refine condK_bool (fun hb => ?_) (fun hb => ?_) <;> ((try simp only [Bool.not_eq_true', Bool.not_eq_false'] at hb) <;> (try (have hbe := of_decide_eq_true hb)) <;> (try (have hbe := eq_of_beq hb)))) | (refine aops_partB ?_) | (refine qops_partB ?_))
              exact hJ.out _ _ ⟨lw.length - (k + 1), by omega, k + 1, _, a', n', v', M', by omega, rfl, rfl, rfl, rfl, hM2.out, hst⟩ (by repeat (first | exact Agree.refl _ _ | assumption | refine Agree.put ?_ rfl _))
          · have hlt' : ¬ (k : Int) < (ws.length : Int) := by have := hlenH.out; omega
            have hke : k = lw.length := by omega
            subst hke
            rw [List.take_length] at hM hacc
            have hacc2 : acc = r0 := hacc.out.trans hr0H.out.symm
            subst hacc2
            have hSM := hM.out
            clear hacc hr0H hM hws hnum hc0H
            cases acc
            all_goals
              have hpk : ∀ (B : Nat) (b0 : Blk), ACalls Tryz.prog B 69 [.pointer (some ⟨1, 0, some 0⟩)] (b0 :: ⟨29, 0, [.int .i64 x1, .int .i64 x2, .int .i64 x3, .slice a n v], 0, true⟩ :: M) fun d H2 => d = .int .i64 F ∧ (b0 :: ⟨29, 0, [.int .i64 x1, .int .i64 x2, .int .i64 x3, .slice a n v], 0, true⟩ :: M) = H2 := fun B b0 =>
                ACalls.ofP hfl (.cons (Bor.ptrL (blk := ⟨29, 0, [.int .i64 x1, .int .i64 x2, .int .i64 x3, .slice a n v], 0, true⟩) rfl rfl rfl ⟨_, .cons (.same _ (.flat _ rfl)) (.cons (.same _ (.flat _ rfl)) (.cons (.same _ (.flat _ rfl)) (.cons (hSM.bor [b0, _] rfl) .nil))), rfl⟩ (by simp)) .nil) rfl ⟨rfl, rfl⟩
              have hbor : ∀ b0 b1 : Blk, Bor (b0 :: b1 :: M) (.slice a n v) (islE intE (lw.map fun w => (numD 2 w).1)) := fun b0 b1 => hSM.bor [b0, b1] rfl
              clear hSM hfl
              simp only [Bool.false_and, Bool.true_and]
              repeat' (first | (refine AWp.mixedT (id := 16) (.cons 0 0 (.cons 1 0 (.cons 2 0 (.cons 3 1 (.alt 4 1 (.alt 5 1 (.cons 6 2 (.cons 7 0 .nil)) (.cons 6 2 (.cons 5 0 (.cons 7 0 .nil)))) (.cons 6 2 (.cons 4 0 (.cons 5 0 (.cons 7 0 .nil))))))))) (by kernel_rfl) (by kernel_rfl) ?_) | (refine mopsT_step0 rfl rfl fun KC => ?_) | (refine mopsT_step1 rfl fun KC => ?_) | (refine mopsT_step2 rfl fun KC => ?_) | (refine mopsT_alt1 rfl (fun KC => ?_) ?_) | (refine mopsT_alt2 rfl (fun KC => ?_) ?_) | (refine KV.run _ ?_) | (refine KQ.run _ ?_) | (refine KT.run _ ?_) | (refine AWp.seqH fun KC => ?_) | (refine AWp.block ?_) | (refine AWp.region ?_) | (refine mops_step0 rfl rfl fun KC => ?_) | (refine mops_step1 rfl fun KC => ?_) | (refine mops_step2 rfl fun KC => ?_) | (refine AWp.ret ?_) | (refine AWp.skip ?_) | (refine AWp.exit ?_) | (refine aops_callH rfl fun kC => ?_) | (refine qops_callH rfl fun kC => ?_) | (refine AWp.condB ?_) | (simp only [bse, wk, tys, storeH_ptr, Nat.reduceEqDiff, ↓reduceIte, reduceCtorEq, Nat.reduceAdd, Nat.reduceLeDiff, Int.reduceBEq, Int.reduceLT, Int.reduceLE, Int.reduceEq, ne_eq, not_false_eq_true, Nat.reduceMul, blockE_val, blockE_sz, Int.cast_ofNat_Int, *]) | (refine condK_bool (fun hb => ?_) (fun hb => ?_) <;> ((try simp only [Bool.not_eq_true', Bool.not_eq_false'] at hb) <;> (try (have hbe := of_decide_eq_true hb)) <;> (try (have hbe := eq_of_beq hb)))) | (refine aops_partB ?_) | (refine qops_partB ?_))
              all_goals try
                refine ACalls.get (hpk (M.length + 1 + 1) _) (by simp) (Nat.le_refl _) ?_
                rintro _ _ ⟨rfl, rfl⟩
                repeat' (first | (refine AWp.mixedT (id := 16) (.cons 0 0 (.cons 1 0 (.cons 2 0 (.cons 3 1 (.alt 4 1 (.alt 5 1 (.cons 6 2 (.cons 7 0 .nil)) (.cons 6 2 (.cons 5 0 (.cons 7 0 .nil)))) (.cons 6 2 (.cons 4 0 (.cons 5 0 (.cons 7 0 .nil))))))))) (by kernel_rfl) (by kernel_rfl) ?_) | (refine mopsT_step0 rfl rfl fun KC => ?_) | (refine mopsT_step1 rfl fun KC => ?_) | (refine mopsT_step2 rfl fun KC => ?_) | (refine mopsT_alt1 rfl (fun KC => ?_) ?_) | (refine mopsT_alt2 rfl (fun KC => ?_) ?_) | (refine KV.run _ ?_) | (refine KQ.run _ ?_) | (refine KT.run _ ?_) | (refine AWp.seqH fun KC => ?_) | (refine AWp.block ?_) | (refine AWp.region ?_) | (refine mops_step0 rfl rfl fun KC => ?_) | (refine mops_step1 rfl fun KC => ?_) | (refine mops_step2 rfl fun KC => ?_) | (refine AWp.ret ?_) | (refine AWp.skip ?_) | (refine AWp.exit ?_) | (refine aops_callH rfl fun kC => ?_) | (refine qops_callH rfl fun kC => ?_) | (refine AWp.condB ?_) | (simp only [bse, wk, tys, storeH_ptr, Nat.reduceEqDiff, ↓reduceIte, reduceCtorEq, Nat.reduceAdd, Nat.reduceLeDiff, Int.reduceBEq, Int.reduceLT, Int.reduceLE, Int.reduceEq, ne_eq, not_false_eq_true, Nat.reduceMul, blockE_val, blockE_sz, Int.cast_ofNat_Int, *]) | (refine condK_bool (fun hb => ?_) (fun hb => ?_) <;> ((try simp only [Bool.not_eq_true', Bool.not_eq_false'] at hb) <;> (try (have hbe := of_decide_eq_true hb)) <;> (try (have hbe := eq_of_beq hb)))) | (refine aops_partB ?_) | (refine qops_partB ?_))
              all_goals exact Bor.tupleL (.cons (Bor.aggL (.cons (.same _ (.flat _ rfl)) (.cons (.same _ (.flat _ rfl)) (.cons (.same _ (.flat _ rfl)) (.cons (hbor _ _) .nil))))) (.cons (.same _ (.flat _ rfl)) .nil))
    · have hr : parB t = (blkZ, false) := by
        unfold parB
        rw [hw]
        dsimp only
        rw [if_neg h0]
      rw [hr]
      have hc0' : (bs w0 == ⟨#[98, 108, 111, 99, 107]⟩) = false := by rw [hc0]; simpa using h0
      clear hc0 h0 hr hcl hw h5 hW
      refine PCalls.of ?_; refine ACalls.enter (n := 101) (rs := [.cell 2 29, .tmp 3]) Tryz.func41 rfl rfl rfl (by kernel_rfl) (by kernel_rfl) (by kernel_rfl) (Nat.le_of_ble_eq_true rfl) ?_
      repeat' (first | (refine AWp.mixedT (id := 16) (.cons 0 0 (.cons 1 0 (.cons 2 0 (.cons 3 1 (.alt 4 1 (.alt 5 1 (.cons 6 2 (.cons 7 0 .nil)) (.cons 6 2 (.cons 5 0 (.cons 7 0 .nil)))) (.cons 6 2 (.cons 4 0 (.cons 5 0 (.cons 7 0 .nil))))))))) (by kernel_rfl) (by kernel_rfl) ?_) | (refine mopsT_step0 rfl rfl fun KC => ?_) | (refine mopsT_step1 rfl fun KC => ?_) | (refine mopsT_step2 rfl fun KC => ?_) | (refine mopsT_alt1 rfl (fun KC => ?_) ?_) | (refine mopsT_alt2 rfl (fun KC => ?_) ?_) | (refine ACalls.start ?_; first | (refine ACalls.ofJi (hsp) rfl ?_)) | (refine qcall_start ?_; first | (refine qcallFi (hsp) rfl ?_ ?_; (focus ((first | exact rfl | (simp [pureV, flatV, blockE_val, blockE_sz, Int.cast_ofNat_Int]; done)))))) | (refine KV.run _ ?_) | (refine KQ.run _ ?_) | (refine KT.run _ ?_) | (refine AWp.seqH fun KC => ?_) | (refine AWp.block ?_) | (refine AWp.region ?_) | (refine mops_step0 rfl rfl fun KC => ?_) | (refine mops_step1 rfl fun KC => ?_) | (refine mops_step2 rfl fun KC => ?_) | (refine AWp.ret ?_) | (refine AWp.skip ?_) | (refine AWp.exit ?_) | (refine aops_callH rfl fun kC => ?_) | (refine qops_callH rfl fun kC => ?_) | (refine AWp.condB ?_) | (simp only [bse, wk, tys, storeH_ptr, Nat.reduceEqDiff, ↓reduceIte, reduceCtorEq, Nat.reduceAdd, Nat.reduceLeDiff, Int.reduceBEq, Int.reduceLT, Int.reduceLE, Int.reduceEq, ne_eq, not_false_eq_true, Nat.reduceMul, blockE_val, blockE_sz, Int.cast_ofNat_Int, *]) | (refine condK_bool (fun hb => ?_) (fun hb => ?_) <;> ((try simp only [Bool.not_eq_true', Bool.not_eq_false'] at hb) <;> (try (have hbe := of_decide_eq_true hb)) <;> (try (have hbe := eq_of_beq hb)))) | (refine aops_partB ?_) | (refine qops_partB ?_))
      exact bor_blkZ false
  · have hr : parB t = (blkZ, false) := by
      unfold parB
      split
      · rename_i he; rw [he] at h5; simp at h5
      · rfl
    rw [hr]
    have h5' : (((cutW 32 t).length : Int) == 5) = false := by rw [hcl]; simpa using h5
    clear hcl h5 hr
    refine PCalls.of ?_; refine ACalls.enter (n := 101) (rs := [.cell 2 29, .tmp 3]) Tryz.func41 rfl rfl rfl (by kernel_rfl) (by kernel_rfl) (by kernel_rfl) (Nat.le_of_ble_eq_true rfl) ?_
    repeat' (first | (refine AWp.mixedT (id := 16) (.cons 0 0 (.cons 1 0 (.cons 2 0 (.cons 3 1 (.alt 4 1 (.alt 5 1 (.cons 6 2 (.cons 7 0 .nil)) (.cons 6 2 (.cons 5 0 (.cons 7 0 .nil)))) (.cons 6 2 (.cons 4 0 (.cons 5 0 (.cons 7 0 .nil))))))))) (by kernel_rfl) (by kernel_rfl) ?_) | (refine mopsT_step0 rfl rfl fun KC => ?_) | (refine mopsT_step1 rfl fun KC => ?_) | (refine mopsT_step2 rfl fun KC => ?_) | (refine mopsT_alt1 rfl (fun KC => ?_) ?_) | (refine mopsT_alt2 rfl (fun KC => ?_) ?_) | (refine ACalls.start ?_; first | (refine ACalls.ofJi (hsp) rfl ?_)) | (refine qcall_start ?_; first | (refine qcallFi (hsp) rfl ?_ ?_; (focus ((first | exact rfl | (simp [pureV, flatV, blockE_val, blockE_sz, Int.cast_ofNat_Int]; done)))))) | (refine KV.run _ ?_) | (refine KQ.run _ ?_) | (refine KT.run _ ?_) | (refine AWp.seqH fun KC => ?_) | (refine AWp.block ?_) | (refine AWp.region ?_) | (refine mops_step0 rfl rfl fun KC => ?_) | (refine mops_step1 rfl fun KC => ?_) | (refine mops_step2 rfl fun KC => ?_) | (refine AWp.ret ?_) | (refine AWp.skip ?_) | (refine AWp.exit ?_) | (refine aops_callH rfl fun kC => ?_) | (refine qops_callH rfl fun kC => ?_) | (refine AWp.condB ?_) | (simp only [bse, wk, tys, storeH_ptr, Nat.reduceEqDiff, ↓reduceIte, reduceCtorEq, Nat.reduceAdd, Nat.reduceLeDiff, Int.reduceBEq, Int.reduceLT, Int.reduceLE, Int.reduceEq, ne_eq, not_false_eq_true, Nat.reduceMul, blockE_val, blockE_sz, Int.cast_ofNat_Int, *]) | (refine condK_bool (fun hb => ?_) (fun hb => ?_) <;> ((try simp only [Bool.not_eq_true', Bool.not_eq_false'] at hb) <;> (try (have hbe := of_decide_eq_true hb)) <;> (try (have hbe := eq_of_beq hb)))) | (refine aops_partB ?_) | (refine qops_partB ?_))
    exact bor_blkZ false
end Go.BM
