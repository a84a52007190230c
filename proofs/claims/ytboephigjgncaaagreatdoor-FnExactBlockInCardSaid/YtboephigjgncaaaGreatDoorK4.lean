/- Words of texts, numbers of words, the text of a block: the program. -/
import Derived.Test.YtboephigjgncaaaGreatDoorK1
import Derived.Test.YtboephigjgncaaaGreatDoorK2
import Derived.Test.YtboephigjgncaaaGreatDoorK3
import Derived.Lib.SplitLaws
set_option linter.unusedVariables false
set_option linter.unusedSimpArgs false
set_option maxRecDepth 100000
set_option maxHeartbeats 4000000
namespace Go.BM
open Go.Proofs Go.RowKit
attribute [local irreducible] ACalls AWp aops qops optK optP cK gateA condK mops qcallK PCalls loadV fldV idxV lenV slV storeH binS
theorem split_cut (c : UInt8) : ∀ s : List UInt8, Lib.splitK [c] 0 (Lib.count s [c]) s = cutL c s
  | [] => by
    rw [Lib.count_miss (by simp [Lib.index])]
    rfl
  | b :: l => by
    by_cases h : b = c
    · subst h
      have hix : Lib.index (b :: l) [b] = 0 := by rw [Lib.index]; simp [List.isPrefixOf]
      rw [Lib.count_cons_eq, Nat.add_comm, Lib.splitK, hix, if_neg (by decide)]
      simp only [cutL, if_true]
      rw [← split_cut b l]
      rfl
    · have ih := split_cut c l
      rw [Lib.count_cons_ne b c l h, cutL, if_neg h]
      have hp : ([c] : List UInt8).isPrefixOf (b :: l) = false := by simp [List.isPrefixOf, Ne.symm h]
      have hix : Lib.index (b :: l) [c] = if Lib.index l [c] == -1 then -1 else Lib.index l [c] + 1 := by rw [Lib.index, hp]; simp
      by_cases hm : Lib.index l [c] = -1
      · rw [Lib.count_miss hm] at ih ⊢
        rw [← ih]
        rfl
      · have hge := Lib.index_ge l [c]
        obtain ⟨j, hj⟩ : ∃ j : Nat, Lib.index l [c] = j := ⟨(Lib.index l [c]).toNat, by omega⟩
        rw [Lib.count_hit (by simp) hj, Nat.add_comm] at ih ⊢
        have hjn : ¬ ((j : Int) == -1) = true := fun e => by have := beq_iff_eq.1 e; omega
        have hjn1 : ¬ ((j : Int) + 1 == -1) = true := fun e => by have := beq_iff_eq.1 e; omega
        rw [Lib.splitK, hj, if_neg hjn] at ih
        rw [Lib.splitK, hix, hj, if_neg hjn, if_neg hjn1, ← ih]
        have e1 : ((j : Int) + 1).toNat = j + 1 := by omega
        have e2 : ((j : Int)).toNat = j := by omega
        rw [e1, e2]
        rfl
theorem bs_list (l : List UInt8) : (bs l).data.toList = l := by simp
theorem splitW_cut (c : UInt8) (t : List UInt8) : splitW (bs t) (bs [c]) = cutW c t := by
  have h := Lib.splitB_data (bs [c]) 0 (Lib.countB (bs t) (bs [c])) (bs t)
  rw [bs_list, bs_list] at h
  have hc : Lib.countB (bs t) (bs [c]) = Lib.count t [c] := by
    show Lib.count (bs t).data.toList (bs [c]).data.toList = _
    rw [bs_list, bs_list]
  rw [hc, split_cut] at h
  unfold splitW cutW
  rw [hc, ← h, List.map_map]
  conv => lhs; rw [← List.map_id (Lib.splitB (bs [c]) 0 (Lib.count t [c]) (bs t))]
  apply List.map_congr_left
  intro s _
  exact (bs_of s).symm
def numL (w : List UInt8) : Int := numF (bs w)
theorem lib_SplitC (t : List UInt8) (c : UInt8) (ht : t.length ≤ 1048576) : PCalls Tryz.prog 73 [.string (bs t), .string (bs [c])] (islE strE (cutW c t)) := by
  rw [← splitW_cut c t]
  exact (lib_Split (bs t) (bs [c]) (by rw [bs_size]; omega) (by rw [bs_size]; simp)).p
theorem impl_numbers (t : List UInt8) (c : UInt8) (ht : t.length ≤ 1000000) : NCalls Tryz.prog 75 [.string (bs t), .string (bs [c])] (islE intE ((cutL c t).map numL)) := by
  have hsp := lib_SplitC t c (by omega)
  have hln := cutL_len c t
  have hwl := cutL_mem c t
  have hws : ∀ (k : Nat) (hk : k < (cutW c t).length), ∃ w, w ∈ cutL c t ∧ (cutW c t)[k] = bs w := fun k hk => by
    obtain ⟨w, hw, e⟩ := List.mem_map.1 (List.getElem_mem hk : (cutW c t)[k] ∈ cutW c t)
    exact ⟨w, hw, e.symm⟩
  have hcl : (cutW c t).length = (cutL c t).length := List.length_map ..
  have hmp : (cutL c t).map numL = (cutW c t).map numF := by unfold cutW; rw [List.map_map]; rfl
  rw [hmp]
  have hnum : ∀ (k : Nat) (hk : k < (cutW c t).length), PCalls Tryz.prog 74 [.string (cutW c t)[k]] (.int .i64 (numF (cutW c t)[k])) := fun k hk => by
    obtain ⟨w, hw, e⟩ := hws k hk
    rw [e]
    exact lib_number _ (by rw [bs_size]; have := hwl w hw; omega)
  have hwn : (cutW c t).length ≤ 1000001 := by omega
  generalize cutW c t = ws at hsp hnum hwn ⊢
  clear hws hcl hmp hwl hln
  refine NCalls.of ?_; refine ACalls.enter (n := 24) (rs := [.tmp 4]) Tryz.func75 rfl rfl rfl (by kernel_rfl) (by kernel_rfl) (by kernel_rfl) (Nat.le_of_ble_eq_true rfl) ?_
  repeat' (first | (refine ACalls.start ?_; first | (refine ACalls.ofJi (hsp) rfl ?_)) | (refine qcall_start ?_; first | (refine qcallFi (hsp) rfl ?_ ?_; (focus ((first | exact rfl | (simp [pureV, flatV]; done)))))) | (refine KV.run _ ?_) | (refine KQ.run _ ?_) | (refine KT.run _ ?_) | (refine AWp.seqH fun KC => ?_) | (refine AWp.block ?_) | (refine AWp.region ?_) | (refine mops_step0 rfl rfl fun KC => ?_) | (refine mops_step1 rfl fun KC => ?_) | (refine mops_step2 rfl fun KC => ?_) | (refine AWp.ret ?_) | (refine AWp.skip ?_) | (refine AWp.exit ?_) | (refine aops_callH rfl fun kC => ?_) | (refine qops_callH rfl fun kC => ?_) | (refine AWp.condB ?_) | (simp only [bse, wk, tys, storeH_ptr, Nat.reduceEqDiff, ↓reduceIte, reduceCtorEq, Nat.reduceAdd, Nat.reduceLeDiff, Int.reduceBEq, Int.reduceLT, Int.reduceLE, Int.reduceEq, ne_eq, not_false_eq_true, Nat.reduceMul, *]) | (refine condK_bool (fun hb => ?_) (fun hb => ?_) <;> ((try simp only [Bool.not_eq_true', Bool.not_eq_false'] at hb) <;> (try (have hbe := of_decide_eq_true hb)) <;> (try (have hbe := eq_of_beq hb)))) | (refine aops_partB ?_) | (refine qops_partB ?_))
  refine AWp.loopH [14, 15, 16, 7, 17, 18, 19, 20, 21, 5, 22, 13] (fun m e' H' => ∃ (k ver : Nat) (G : AH), k ≤ ws.length ∧ m = ws.length - k ∧ e' 13 = .int .i64 k ∧ e' 5 = .slice (some ⟨0, 0, none⟩) k ver ∧ H' = ⟨2, 1, intE.flat ((ws.take k).map numF), ver, true⟩ :: G) ws.length ⟨0, 0, _, by omega, by omega, rfl, rfl, rfl⟩ ?_
  rintro m e' H' hA ⟨k, ver, G, hk, rfl, e13, e5, rfl⟩ hJ
  have a4 := hA 4 rfl; have a11 := hA 11 rfl; have a12 := hA 12 rfl; try simp only [bse, wk, tys, storeH_ptr, Nat.reduceEqDiff, ↓reduceIte, reduceCtorEq, Nat.reduceAdd, Nat.reduceLeDiff, Int.reduceBEq, Int.reduceLT, Int.reduceLE, Int.reduceEq, ne_eq, not_false_eq_true, Nat.reduceMul] at a4 a11 a12; clear hA
  by_cases hlt : k < ws.length
  · have hlt' : (k : Int) < (ws.length : Int) := by omega
    have hw := wr_succ (k := k) (by omega)
    have hn := hnum k hlt
    have hkl : ((ws.take k).map numF).length = k := by rw [List.length_map, List.length_take]; omega
    have hap := appendH_one (P := Tryz.prog) (B := 0) (E := intE) (H0 := ⟨2, 1, intE.flat ((ws.take k).map numF), ver, true⟩ :: G) (ys := (ws.take k).map numF) (numF ws[k]) elZ27 elZ27 zOk27 (r := 0) rfl (Nat.zero_le _) (by omega) (by omega)
    rw [hkl, ← map_step numF ws k hlt] at hap
    simp only [List.cons_append, List.length_cons, List.set_cons_succ, List.set_cons_zero, intE_sz, intE_val, cells_int] at hap
    clear hkl hnum
    repeat' (first | (refine ACalls.start ?_; first | (refine ACalls.ofJi (hn) rfl ?_)) | (refine qcall_start ?_; first | (refine qcallFi (hn) rfl ?_ ?_; (focus ((first | exact rfl | (simp [pureV, flatV]; done)))))) | (refine KV.run _ ?_) | (refine KQ.run _ ?_) | (refine KT.run _ ?_) | (refine AWp.seqH fun KC => ?_) | (refine AWp.block ?_) | (refine AWp.region ?_) | (refine mops_step0 rfl rfl fun KC => ?_) | (refine mops_step1 rfl fun KC => ?_) | (refine mops_step2 rfl fun KC => ?_) | (refine AWp.ret ?_) | (refine AWp.skip ?_) | (refine AWp.exit ?_) | (refine aops_callH rfl fun kC => ?_) | (refine qops_callH rfl fun kC => ?_) | (refine AWp.condB ?_) | (simp only [bse, wk, tys, storeH_ptr, Nat.reduceEqDiff, ↓reduceIte, reduceCtorEq, Nat.reduceAdd, Nat.reduceLeDiff, Int.reduceBEq, Int.reduceLT, Int.reduceLE, Int.reduceEq, ne_eq, not_false_eq_true, Nat.reduceMul, *]) | (refine condK_bool (fun hb => ?_) (fun hb => ?_) <;> ((try simp only [Bool.not_eq_true', Bool.not_eq_false'] at hb) <;> (try (have hbe := of_decide_eq_true hb)) <;> (try (have hbe := eq_of_beq hb)))) | (refine aops_partB ?_) | (refine qops_partB ?_))
    exact hJ.out _ _ ⟨ws.length - (k + 1), by omega, k + 1, ver + 1, _, by omega, rfl, rfl, by simp [put], rfl⟩ (by repeat (first | exact Agree.refl _ _ | assumption | refine Agree.put ?_ rfl _))
  · have hlt' : ¬ (k : Int) < (ws.length : Int) := by omega
    have hke : k = ws.length := by omega
    subst hke
    rw [List.take_length]
    clear hnum
    repeat' (first | (refine KV.run _ ?_) | (refine KQ.run _ ?_) | (refine KT.run _ ?_) | (refine AWp.seqH fun KC => ?_) | (refine AWp.block ?_) | (refine AWp.region ?_) | (refine mops_step0 rfl rfl fun KC => ?_) | (refine mops_step1 rfl fun KC => ?_) | (refine mops_step2 rfl fun KC => ?_) | (refine AWp.ret ?_) | (refine AWp.skip ?_) | (refine AWp.exit ?_) | (refine aops_callH rfl fun kC => ?_) | (refine qops_callH rfl fun kC => ?_) | (refine AWp.condB ?_) | (simp only [bse, wk, tys, storeH_ptr, Nat.reduceEqDiff, ↓reduceIte, reduceCtorEq, Nat.reduceAdd, Nat.reduceLeDiff, Int.reduceBEq, Int.reduceLT, Int.reduceLE, Int.reduceEq, ne_eq, not_false_eq_true, Nat.reduceMul, *]) | (refine condK_bool (fun hb => ?_) (fun hb => ?_) <;> ((try simp only [Bool.not_eq_true', Bool.not_eq_false'] at hb) <;> (try (have hbe := of_decide_eq_true hb)) <;> (try (have hbe := eq_of_beq hb)))) | (refine aops_partB ?_) | (refine qops_partB ?_))
    exact ⟨[0], by simp, OwnL.slE (E := intE) (ys := ws.map numF) rfl (fun _ => rfl) (by rw [List.length_map]) (intE_flat _)⟩
end Go.BM
