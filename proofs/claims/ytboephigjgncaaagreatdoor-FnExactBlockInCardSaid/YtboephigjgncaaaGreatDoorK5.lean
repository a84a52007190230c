/- Numbers with something between; the text of a block: the program. -/
import Derived.Test.YtboephigjgncaaaGreatDoorK4
set_option linter.unusedVariables false
set_option linter.unusedSimpArgs false
set_option maxRecDepth 100000
set_option maxHeartbeats 4000000
namespace Go.BM
open Go.Proofs Go.RowKit
attribute [local irreducible] ACalls AWp aops qops optK optP cK gateA condK mops qcallK PCalls loadV fldV idxV lenV slV storeH binS
theorem dec_len {u : Nat} (h : u ≤ 999) : (Lib.decDigits u).length ≤ 3 := by
  by_cases h1 : u < 10
  · rw [Lib.decDigits, dif_pos h1]; simp
  · rw [Lib.decDigits, dif_neg h1]
    by_cases h2 : u / 10 < 10
    · rw [Lib.decDigits, dif_pos h2]; simp
    · rw [Lib.decDigits, dif_neg h2, Lib.decDigits, dif_pos (by omega)]; simp
theorem itoa_nat {x : Int} (h : 0 ≤ x) : Lib.itoa x = Lib.decDigits x.toNat := by unfold Lib.itoa; rw [if_neg (by omega)]
theorem itoa_len {x : Int} (h : 0 ≤ x) (h2 : x ≤ 999) : (Lib.itoa x).length ≤ 3 := by rw [itoa_nat h]; exact dec_len (by omega)
theorem joinTail_len (c : UInt8) : ∀ ws : List (List UInt8), (∀ w ∈ ws, w.length ≤ 3) → (Lib.joinTail [c] ws).length ≤ ws.length * 4
  | [], _ => by simp [Lib.joinTail]
  | w :: ws, h => by
    have ih := joinTail_len c ws fun y hy => h y (by simp [hy])
    have hw := h w (by simp)
    unfold Lib.joinTail at ih ⊢
    simp at ih ⊢
    omega
theorem join_len (c : UInt8) (ws : List (List UInt8)) (h : ∀ w ∈ ws, w.length ≤ 3) : (Lib.join ws [c]).length ≤ ws.length * 4 := by
  cases ws with
  | nil => simp [Lib.join_nil]
  | cons w ws =>
    rw [Lib.join_cons, List.length_append]
    have := joinTail_len c ws fun y hy => h y (by simp [hy])
    have hw := h w (by simp)
    simp
    omega
def joinI (c : UInt8) (xs : List Int) : List UInt8 := Lib.join (xs.map Lib.itoa) [c]
theorem joinI_len (c : UInt8) (xs : List Int) (hx : ∀ x ∈ xs, 0 ≤ x ∧ x ≤ 999) : (joinI c xs).length ≤ xs.length * 4 := by
  have := join_len c (xs.map Lib.itoa) fun w hw => by
    obtain ⟨x, hx', rfl⟩ := List.mem_map.1 hw
    exact itoa_len (hx x hx').1 (hx x hx').2
  rwa [List.length_map] at this
def decS (x : Int) : ByteArray := ⟨(Lib.itoa x).toArray⟩
theorem impl_joined (xs : List Int) (c : UInt8) (hx : ∀ x ∈ xs, 0 ≤ x ∧ x ≤ 999) (hn : xs.length ≤ 1000) : PCalls Tryz.prog 96 [islE intE xs, .string (bs [c])] (.string (bs (joinI c xs))) := by
  have hml : (xs.map decS).map (·.data.toList) = xs.map Lib.itoa := by rw [List.map_map]; apply List.map_congr_left; intro x _; simp [decS]
  have hj := lib_Join (xs.map decS) (bs [c]) (by rw [List.length_map]; omega) (by
    rw [hml, bs_list]
    have := joinI_len c xs hx
    unfold joinI at this
    omega)
  rw [hml, bs_list] at hj
  have hd : ∀ (k : Nat) (hk : k < xs.length), PCalls Tryz.prog 93 [.int .i64 xs[k]] (.string (decS xs[k])) := fun k hk => lib_dec _ (by have := hx _ (List.getElem_mem hk); omega) (by have := hx _ (List.getElem_mem hk); omega)
  have hj' : PCalls Tryz.prog 109 [islE strE (xs.map decS), .string (bs [c])] (.string (bs (joinI c xs))) := hj
  clear hj hml
  generalize joinI c xs = R at hj' ⊢
  refine PCalls.flat rfl ?_; refine ACalls.enter (n := 24) (rs := [.tmp 4]) Tryz.func96 rfl rfl rfl (by kernel_rfl) (by kernel_rfl) (by kernel_rfl) (Nat.le_of_ble_eq_true rfl) ?_
  repeat' (first | (refine KV.run _ ?_) | (refine KQ.run _ ?_) | (refine KT.run _ ?_) | (refine AWp.seqH fun KC => ?_) | (refine AWp.block ?_) | (refine AWp.region ?_) | (refine mops_step0 rfl rfl fun KC => ?_) | (refine mops_step1 rfl fun KC => ?_) | (refine mops_step2 rfl fun KC => ?_) | (refine AWp.ret ?_) | (refine AWp.skip ?_) | (refine AWp.exit ?_) | (refine aops_callH rfl fun kC => ?_) | (refine qops_callH rfl fun kC => ?_) | (refine AWp.condB ?_) | (simp only [bse, wk, tys, storeH_ptr, Nat.reduceEqDiff, ↓reduceIte, reduceCtorEq, Nat.reduceAdd, Nat.reduceLeDiff, Int.reduceBEq, Int.reduceLT, Int.reduceLE, Int.reduceEq, ne_eq, not_false_eq_true, Nat.reduceMul, *]) | (refine condK_bool (fun hb => ?_) (fun hb => ?_) <;> ((try simp only [Bool.not_eq_true', Bool.not_eq_false'] at hb) <;> (try (have hbe := of_decide_eq_true hb)) <;> (try (have hbe := eq_of_beq hb)))) | (refine aops_partB ?_) | (refine qops_partB ?_))
  refine AWp.loopH [12, 13, 14, 7, 15, 16, 17, 18, 19, 5, 20, 11] (fun m e' H' => ∃ (k ver : Nat) (G : AH), k ≤ xs.length ∧ m = xs.length - k ∧ e' 11 = .int .i64 k ∧ e' 5 = .slice (some ⟨0, 0, none⟩) k ver ∧ H' = ⟨9, 1, strE.flat ((xs.take k).map decS), ver, true⟩ :: G) xs.length ⟨0, 0, _, by omega, by omega, rfl, rfl, rfl⟩ ?_
  rintro m e' H' hA ⟨k, ver, G, hk, rfl, e11, e5, rfl⟩ hJ
  have a1 := hA 1 rfl; have a4 := hA 4 rfl; have a9 := hA 9 rfl; have a10 := hA 10 rfl; try simp only [bse, wk, tys, storeH_ptr, Nat.reduceEqDiff, ↓reduceIte, reduceCtorEq, Nat.reduceAdd, Nat.reduceLeDiff, Int.reduceBEq, Int.reduceLT, Int.reduceLE, Int.reduceEq, ne_eq, not_false_eq_true, Nat.reduceMul] at a1 a4 a9 a10; clear hA
  by_cases hlt : k < xs.length
  · have hlt' : (k : Int) < (xs.length : Int) := by omega
    have hw := wr_succ (k := k) (by omega)
    have hdk := hd k hlt
    have hkl : ((xs.take k).map decS).length = k := by rw [List.length_map, List.length_take]; omega
    have hap := appendH_one (P := Tryz.prog) (B := 0) (E := strE) (H0 := ⟨9, 1, strE.flat ((xs.take k).map decS), ver, true⟩ :: G) (ys := (xs.take k).map decS) (decS xs[k]) elZ22 elZ22 zOk22 (r := 0) rfl (Nat.zero_le _) (by omega) (by omega)
    rw [hkl, ← map_step decS xs k hlt] at hap
    simp only [List.cons_append, List.length_cons, List.set_cons_succ, List.set_cons_zero, strE_sz, strE_val, cells_str] at hap
    clear hkl hd hj'
    repeat' (first | (refine ACalls.start ?_; first | (refine ACalls.ofJi (hdk) rfl ?_)) | (refine qcall_start ?_; first | (refine qcallFi (hdk) rfl ?_ ?_; (focus ((first | exact rfl | (simp [pureV, flatV]; done)))))) | (refine KV.run _ ?_) | (refine KQ.run _ ?_) | (refine KT.run _ ?_) | (refine AWp.seqH fun KC => ?_) | (refine AWp.block ?_) | (refine AWp.region ?_) | (refine mops_step0 rfl rfl fun KC => ?_) | (refine mops_step1 rfl fun KC => ?_) | (refine mops_step2 rfl fun KC => ?_) | (refine AWp.ret ?_) | (refine AWp.skip ?_) | (refine AWp.exit ?_) | (refine aops_callH rfl fun kC => ?_) | (refine qops_callH rfl fun kC => ?_) | (refine AWp.condB ?_) | (simp only [bse, wk, tys, storeH_ptr, Nat.reduceEqDiff, ↓reduceIte, reduceCtorEq, Nat.reduceAdd, Nat.reduceLeDiff, Int.reduceBEq, Int.reduceLT, Int.reduceLE, Int.reduceEq, ne_eq, not_false_eq_true, Nat.reduceMul, *]) | (refine condK_bool (fun hb => ?_) (fun hb => ?_) <;> ((try simp only [Bool.not_eq_true', Bool.not_eq_false'] at hb) <;> (try (have hbe := of_decide_eq_true hb)) <;> (try (have hbe := eq_of_beq hb)))) | (refine aops_partB ?_) | (refine qops_partB ?_))
    exact hJ.out _ _ ⟨xs.length - (k + 1), by omega, k + 1, ver + 1, _, by omega, rfl, rfl, by simp [put], rfl⟩ (by repeat (first | exact Agree.refl _ _ | assumption | refine Agree.put ?_ rfl _))
  · have hlt' : ¬ (k : Int) < (xs.length : Int) := by omega
    have hke : k = xs.length := by omega
    subst hke
    rw [List.take_length]
    have hb : BorL (⟨9, 1, strE.flat (xs.map decS), ver, true⟩ :: G) [.slice (some ⟨0, 0, none⟩) xs.length ver, .string (bs [c])] [islE strE (xs.map decS), .string (bs [c])] :=
      .cons (Bor.sbE (E := strE) (ys := xs.map decS) rfl (fun _ => rfl) (by rw [List.length_map])) (.cons (.same _ (.flat _ rfl)) .nil)
    have hjo := fun (B : Nat) => ACalls.ofP (B := B) (k := fun d H' => d = .string (bs R) ∧ ⟨9, 1, strE.flat (xs.map decS), ver, true⟩ :: G = H') hj' hb rfl ⟨rfl, rfl⟩
    clear hd hj' hb
    repeat' (first | (refine ACalls.start ?_; first | (refine ACalls.get (hjo _) (by first | exact Nat.le_refl _ | exact Nat.zero_le _ | (simp only [List.length_append, List.length_cons, List.length_nil]; omega) | (simp only [List.length_set]; omega) | omega) (by first | exact Nat.le_refl _ | exact Nat.zero_le _ | (simp only [List.length_append, List.length_cons, List.length_nil]; omega) | (simp only [List.length_set]; omega) | omega) ?_; rintro _ _ ⟨rfl, rfl⟩)) | (refine KV.run _ ?_) | (refine KQ.run _ ?_) | (refine KT.run _ ?_) | (refine AWp.seqH fun KC => ?_) | (refine AWp.block ?_) | (refine AWp.region ?_) | (refine mops_step0 rfl rfl fun KC => ?_) | (refine mops_step1 rfl fun KC => ?_) | (refine mops_step2 rfl fun KC => ?_) | (refine AWp.ret ?_) | (refine AWp.skip ?_) | (refine AWp.exit ?_) | (refine aops_callH rfl fun kC => ?_) | (refine qops_callH rfl fun kC => ?_) | (refine AWp.condB ?_) | (simp only [bse, wk, tys, storeH_ptr, Nat.reduceEqDiff, ↓reduceIte, reduceCtorEq, Nat.reduceAdd, Nat.reduceLeDiff, Int.reduceBEq, Int.reduceLT, Int.reduceLE, Int.reduceEq, ne_eq, not_false_eq_true, Nat.reduceMul, *]) | (refine condK_bool (fun hb => ?_) (fun hb => ?_) <;> ((try simp only [Bool.not_eq_true', Bool.not_eq_false'] at hb) <;> (try (have hbe := of_decide_eq_true hb)) <;> (try (have hbe := eq_of_beq hb)))) | (refine aops_partB ?_) | (refine qops_partB ?_))
theorem bf_bounds {b : TBlock} (h : blockFault b = 0) : (0 ≤ b.prev ∧ b.prev ≤ 60) ∧ (1 ≤ b.height ∧ b.height ≤ 40) ∧ (1 ≤ b.miner ∧ b.miner ≤ 999) ∧ b.txs.length ≤ 6 ∧ ∀ x ∈ b.txs, 1 ≤ x ∧ x ≤ 60 := by
  have hsc : ∀ (xs pre : List Int), scanK bTxF 0 pre xs = 0 → ∀ x ∈ xs, 1 ≤ x ∧ x ≤ 60 := fun xs => by
    induction xs with
    | nil => intro pre _ x hx; simp at hx
    | cons y l ih =>
      intro pre h x hx
      unfold scanK at h
      split at h
      · rename_i h0
        rcases List.mem_cons.1 hx with rfl | hx
        · unfold bTxF at h0
          split at h0
          · simp at h0
          · rename_i h1; unfold inB at h1; simp at h1; omega
        · exact ih _ h x hx
      · rename_i h0; exact absurd (by rw [h]; rfl) h0
  unfold blockFault at h
  split at h
  · omega
  · rename_i h1
    split at h
    · omega
    · split at h
      · omega
      · rename_i h3
        unfold inB at h1
        simp at h1 h3
        exact ⟨by omega, by omega, by omega, by omega, hsc _ _ h⟩
def blockT (b : TBlock) : List UInt8 := [98, 108, 111, 99, 107, 32] ++ joinI 32 [b.prev, b.height, b.miner] ++ [32] ++ (if b.txs.length = 0 then [45] else joinI 43 b.txs)
end Go.BM
