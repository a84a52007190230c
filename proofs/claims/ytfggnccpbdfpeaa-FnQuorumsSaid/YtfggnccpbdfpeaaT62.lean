/- ChooseQuorum: the program's side, whole. -/
import Derived.Test.YtfggnccpbdfpeaaT61
set_option linter.unusedVariables false
set_option linter.unusedSimpArgs false
set_option maxRecDepth 100000
set_option maxHeartbeats 4000000
namespace Go.BM
open Go.Proofs Go.RowKit
attribute [local irreducible] ACalls AWp aops qops optK optP cK gateA condK mops qcallK PCalls loadV fldV idxV lenV slV storeH binS
def needQ (n : Int) : Int := (n * 2).tdiv 3 + 1
def errQ (c : Int) : TQuorumResult := ⟨c, ⟨[], 0⟩⟩
def chooseQF (keys : List Int) (seed n : Int) : TQuorumResult :=
  if decide ((8 : Int) < (keys.length : Int)) then errQ 2 else if !keysB keys || !inB seed 0 65535 || !inB n 1 8 then errQ 3
  else if decide keys.Nodup then (if decide ((keys.length : Int) < n) then errQ 4 else ⟨0, ⟨chooseL keys seed n, needQ n⟩⟩) else errQ 7
theorem keysB_all {xs : List Int} (h : keysB xs = true) : ∀ x ∈ xs, inB x 1 999 = true := fun x hx => List.all_eq_true.1 h x hx
theorem adj_dup {seed : Int} {ys : List Int} (hv : ∀ y ∈ ys, inB y 1 999 = true) (hs : ys.Pairwise fun a b => kap seed a ≤ kap seed b) : adjB ys = true ↔ ¬ ys.Nodup := by
  constructor
  · intro h hn
    obtain ⟨j, hj, e⟩ := (adjB_at ys).1 h
    exact List.pairwise_iff_getElem.1 hn j (j + 1) (by omega) hj (by omega) e.symm
  · intro h
    refine Classical.byContradiction fun ha => h (List.pairwise_iff_getElem.2 fun i j hi hj hij e => ha ((adjB_at ys).2 ⟨i, by omega, ?_⟩))
    have h1 := List.pairwise_iff_getElem.1 hs i (i + 1) hi (by omega) (by omega)
    have h2 : kap seed (ys[i + 1]'(by omega)) ≤ kap seed ys[j] := by
      by_cases e2 : j = i + 1
      · subst e2; exact Int.le_refl _
      · exact List.pairwise_iff_getElem.1 hs (i + 1) j (by omega) hj (by omega)
    rw [← e] at h2
    exact kap_inj (hv _ (List.getElem_mem _)) (hv _ (List.getElem_mem _)) (Int.le_antisymm h2 h1)
theorem lib_Clone_intF (xs : List Int) (hn : xs.length ≤ 1048576) : NFun Try.prog 133 [islE intE xs] (fun bs F => ∃ (ver : Nat) (o : Bool), (xs.length ≠ 0 → o = true) ∧ bs = [⟨2, 1, intE.flat xs, ver, o⟩] ∧ F = fun ρ => .slice (some ⟨ρ 0, 0, none⟩) xs.length ver) := by
  unfold NFun
  refine (lib_Clone_int_own [] xs hn).mono fun d H' ⟨ver, o, ho, h1, h2⟩ => ?_
  subst h1 h2
  exact NFOut.one 0 rfl ⟨ver, o, ho, rfl, rfl⟩ rfl
theorem clone_sh {xs : List Int} : ∀ bs F, (∃ (ver : Nat) (o : Bool), (xs.length ≠ 0 → o = true) ∧ bs = [⟨2, 1, intE.flat xs, ver, o⟩] ∧ F = fun ρ => Value.slice (some ⟨ρ 0, 0, none⟩) xs.length ver) → Shp bs F := by
  rintro _ _ ⟨ver, o, _, rfl, rfl⟩
  exact Shp.one (intE_flat _) fun N ρ k => .slice 0 0 none _ _ (by decide)
theorem slV_own3 {t el by_ r ver i n : Nat} {kd kd' : IntKind} {b : Blk} {H : AH} (hz : elZ Try.prog t = some (el, 1, by_)) (hb : H[r]? = some b) (hv : b.ver = ver) (ho : b.own = true) (hs : b.sz = 1) (hi : i ≤ n) :
    slV Try.prog H t (.slice (some ⟨r, 0, none⟩) n ver) none (some (.int kd (i : Int))) (some (.int kd' (i : Int))) = some (.slice (some ⟨r, 0, some i⟩) i ver) := by
  rw [slV_own, hz, hb]
  simp only [Option.bind_some, boundV, Option.getD_none]
  rw [if_pos ⟨hv, ho, hs, by omega, by omega, by omega, by omega, by simp⟩]
  simp
theorem impl_ChooseQuorum (keys : List Int) (seed n : Int) (hn : keys.length ≤ 1048576) : NCalls Try.prog 49 [islE intE keys, .int .i64 seed, .int .i64 n] (quorumResultE.val (chooseQF keys seed n)) := by
  by_cases h8 : (8 : Int) < (keys.length : Int)
  · have e : chooseQF keys seed n = errQ 2 := by unfold chooseQF; simp [h8]
    rw [e]
    refine NCalls.of ?_; refine ACalls.enter (n := 59) (rs := [.cell 6 94]) Try.func49 rfl rfl rfl (by kernel_rfl) (by kernel_rfl) (by kernel_rfl) (Nat.le_of_ble_eq_true rfl) ?_
    repeat' (first | (refine KV.run _ ?_) | (refine KQ.run _ ?_) | (refine KT.run _ ?_) | (refine AWp.seqH fun KC => ?_) | (refine AWp.block ?_) | (refine AWp.region ?_) | (refine mops_step0 rfl rfl fun KC => ?_) | (refine mops_step1 rfl fun KC => ?_) | (refine mops_step2 rfl fun KC => ?_) | (refine AWp.ret ?_) | (refine AWp.skip ?_) | (refine AWp.exit ?_) | (refine aops_callH rfl fun kC => ?_) | (refine qops_callH rfl fun kC => ?_) | (refine AWp.condB ?_) | (simp only [bse, wk, tys, storeH_ptr, Nat.reduceEqDiff, ↓reduceIte, reduceCtorEq, Nat.reduceAdd, Nat.reduceLeDiff, Int.reduceBEq, Int.reduceLT, Int.reduceLE, Int.reduceEq, ne_eq, not_false_eq_true, Nat.reduceMul, quorumE_val, quorumE_sz, quorumResultE_val, quorumResultE_sz, Int.reduceToNat, Int.cast_ofNat_Int, sb_eq, *]) | (refine condK_bool (fun hb => ?_) (fun hb => ?_) <;> ((try simp only [Bool.not_eq_true', Bool.not_eq_false'] at hb) <;> (try (have hbe := of_decide_eq_true hb)) <;> (try (have hbe := eq_of_beq hb)))) | (refine aops_partB ?_) | (refine qops_partB ?_))
    exact ⟨[], by simp, OwnL.aggL (.flat rfl (.nils (.flat rfl .nil)))⟩
  cases hk : keysB keys with
  | false =>
    have e : chooseQF keys seed n = errQ 3 := by unfold chooseQF; simp [h8, hk]
    rw [e]
    refine NCalls.of ?_; refine ACalls.enter (n := 59) (rs := [.cell 6 94]) Try.func49 rfl rfl rfl (by kernel_rfl) (by kernel_rfl) (by kernel_rfl) (Nat.le_of_ble_eq_true rfl) ?_
    repeat' (first | (refine ACalls.start ?_; first | (refine ACalls.ofJi (impl_areKeys keys (by omega)) rfl ?_)) | (refine qcall_start ?_; first | (refine qcallFi (impl_areKeys keys (by omega)) rfl ?_ ?_; (focus ((first | exact rfl | (simp [pureV, flatV, quorumE_val, quorumE_sz, quorumResultE_val, quorumResultE_sz, Int.reduceToNat, Int.cast_ofNat_Int, sb_eq]; done)))))) | (refine KV.run _ ?_) | (refine KQ.run _ ?_) | (refine KT.run _ ?_) | (refine AWp.seqH fun KC => ?_) | (refine AWp.block ?_) | (refine AWp.region ?_) | (refine mops_step0 rfl rfl fun KC => ?_) | (refine mops_step1 rfl fun KC => ?_) | (refine mops_step2 rfl fun KC => ?_) | (refine AWp.ret ?_) | (refine AWp.skip ?_) | (refine AWp.exit ?_) | (refine aops_callH rfl fun kC => ?_) | (refine qops_callH rfl fun kC => ?_) | (refine AWp.condB ?_) | (simp only [bse, wk, tys, storeH_ptr, Nat.reduceEqDiff, ↓reduceIte, reduceCtorEq, Nat.reduceAdd, Nat.reduceLeDiff, Int.reduceBEq, Int.reduceLT, Int.reduceLE, Int.reduceEq, ne_eq, not_false_eq_true, Nat.reduceMul, quorumE_val, quorumE_sz, quorumResultE_val, quorumResultE_sz, Int.reduceToNat, Int.cast_ofNat_Int, sb_eq, *]) | (refine condK_bool (fun hb => ?_) (fun hb => ?_) <;> ((try simp only [Bool.not_eq_true', Bool.not_eq_false'] at hb) <;> (try (have hbe := of_decide_eq_true hb)) <;> (try (have hbe := eq_of_beq hb)))) | (refine aops_partB ?_) | (refine qops_partB ?_))
    exact ⟨[], by simp, OwnL.aggL (.flat rfl (.nils (.flat rfl .nil)))⟩
  | true =>
    cases hse : inB seed 0 65535 with
    | false =>
      have e : chooseQF keys seed n = errQ 3 := by unfold chooseQF; simp [h8, hk, hse]
      rw [e]
      refine NCalls.of ?_; refine ACalls.enter (n := 59) (rs := [.cell 6 94]) Try.func49 rfl rfl rfl (by kernel_rfl) (by kernel_rfl) (by kernel_rfl) (Nat.le_of_ble_eq_true rfl) ?_
      repeat' (first | (refine ACalls.start ?_; first | (refine ACalls.ofJi (impl_areKeys keys (by omega)) rfl ?_) | (refine ACalls.ofJi (impl_within _ _ _) rfl ?_)) | (refine qcall_start ?_; first | (refine qcallFi (impl_areKeys keys (by omega)) rfl ?_ ?_; (focus ((first | exact rfl | (simp [pureV, flatV, quorumE_val, quorumE_sz, quorumResultE_val, quorumResultE_sz, Int.reduceToNat, Int.cast_ofNat_Int, sb_eq]; done))))) | (refine qcallFi (impl_within _ _ _) rfl ?_ ?_; (focus ((first | exact rfl | (simp [pureV, flatV, quorumE_val, quorumE_sz, quorumResultE_val, quorumResultE_sz, Int.reduceToNat, Int.cast_ofNat_Int, sb_eq]; done)))))) | (refine KV.run _ ?_) | (refine KQ.run _ ?_) | (refine KT.run _ ?_) | (refine AWp.seqH fun KC => ?_) | (refine AWp.block ?_) | (refine AWp.region ?_) | (refine mops_step0 rfl rfl fun KC => ?_) | (refine mops_step1 rfl fun KC => ?_) | (refine mops_step2 rfl fun KC => ?_) | (refine AWp.ret ?_) | (refine AWp.skip ?_) | (refine AWp.exit ?_) | (refine aops_callH rfl fun kC => ?_) | (refine qops_callH rfl fun kC => ?_) | (refine AWp.condB ?_) | (simp only [bse, wk, tys, storeH_ptr, Nat.reduceEqDiff, ↓reduceIte, reduceCtorEq, Nat.reduceAdd, Nat.reduceLeDiff, Int.reduceBEq, Int.reduceLT, Int.reduceLE, Int.reduceEq, ne_eq, not_false_eq_true, Nat.reduceMul, quorumE_val, quorumE_sz, quorumResultE_val, quorumResultE_sz, Int.reduceToNat, Int.cast_ofNat_Int, sb_eq, *]) | (refine condK_bool (fun hb => ?_) (fun hb => ?_) <;> ((try simp only [Bool.not_eq_true', Bool.not_eq_false'] at hb) <;> (try (have hbe := of_decide_eq_true hb)) <;> (try (have hbe := eq_of_beq hb)))) | (refine aops_partB ?_) | (refine qops_partB ?_))
      exact ⟨[], by simp, OwnL.aggL (.flat rfl (.nils (.flat rfl .nil)))⟩
    | true =>
      cases hin : inB n 1 8 with
      | false =>
        have e : chooseQF keys seed n = errQ 3 := by unfold chooseQF; simp [h8, hk, hse, hin]
        rw [e]
        refine NCalls.of ?_; refine ACalls.enter (n := 59) (rs := [.cell 6 94]) Try.func49 rfl rfl rfl (by kernel_rfl) (by kernel_rfl) (by kernel_rfl) (Nat.le_of_ble_eq_true rfl) ?_
        repeat' (first | (refine ACalls.start ?_; first | (refine ACalls.ofJi (impl_areKeys keys (by omega)) rfl ?_) | (refine ACalls.ofJi (impl_within _ _ _) rfl ?_)) | (refine qcall_start ?_; first | (refine qcallFi (impl_areKeys keys (by omega)) rfl ?_ ?_; (focus ((first | exact rfl | (simp [pureV, flatV, quorumE_val, quorumE_sz, quorumResultE_val, quorumResultE_sz, Int.reduceToNat, Int.cast_ofNat_Int, sb_eq]; done))))) | (refine qcallFi (impl_within _ _ _) rfl ?_ ?_; (focus ((first | exact rfl | (simp [pureV, flatV, quorumE_val, quorumE_sz, quorumResultE_val, quorumResultE_sz, Int.reduceToNat, Int.cast_ofNat_Int, sb_eq]; done)))))) | (refine KV.run _ ?_) | (refine KQ.run _ ?_) | (refine KT.run _ ?_) | (refine AWp.seqH fun KC => ?_) | (refine AWp.block ?_) | (refine AWp.region ?_) | (refine mops_step0 rfl rfl fun KC => ?_) | (refine mops_step1 rfl fun KC => ?_) | (refine mops_step2 rfl fun KC => ?_) | (refine AWp.ret ?_) | (refine AWp.skip ?_) | (refine AWp.exit ?_) | (refine aops_callH rfl fun kC => ?_) | (refine qops_callH rfl fun kC => ?_) | (refine AWp.condB ?_) | (simp only [bse, wk, tys, storeH_ptr, Nat.reduceEqDiff, ↓reduceIte, reduceCtorEq, Nat.reduceAdd, Nat.reduceLeDiff, Int.reduceBEq, Int.reduceLT, Int.reduceLE, Int.reduceEq, ne_eq, not_false_eq_true, Nat.reduceMul, quorumE_val, quorumE_sz, quorumResultE_val, quorumResultE_sz, Int.reduceToNat, Int.cast_ofNat_Int, sb_eq, *]) | (refine condK_bool (fun hb => ?_) (fun hb => ?_) <;> ((try simp only [Bool.not_eq_true', Bool.not_eq_false'] at hb) <;> (try (have hbe := of_decide_eq_true hb)) <;> (try (have hbe := eq_of_beq hb)))) | (refine aops_partB ?_) | (refine qops_partB ?_))
        exact ⟨[], by simp, OwnL.aggL (.flat rfl (.nils (.flat rfl .nil)))⟩
      | true =>
        have hv := keysB_all hk
        have hn18 : 1 ≤ n ∧ n ≤ 8 := by unfold inB at hin; simp at hin; exact hin
        obtain ⟨m, rfl⟩ : ∃ m : Nat, n = m := ⟨n.toNat, by omega⟩
        obtain ⟨w, hw⟩ : ∃ w, w = chooseQF keys seed m := ⟨_, rfl⟩
        have hq7 : ¬ keys.Nodup → w = errQ 7 := fun h => by rw [hw]; unfold chooseQF; simp [h8, hk, hse, hin, h]
        have hq4 : keys.Nodup → (keys.length : Int) < (m : Int) → w = errQ 4 := fun h h2 => by rw [hw]; unfold chooseQF; simp [h8, hk, hse, hin, h]; omega
        have hq0 : keys.Nodup → ¬ (keys.length : Int) < (m : Int) → w = ⟨0, ⟨chooseL keys seed m, needQ m⟩⟩ := fun h h2 => by rw [hw]; unfold chooseQF; simp [h8, hk, hse, hin, h]; omega
        rw [← hw]
        clear hw
        have hwH : Hid ((¬ keys.Nodup → w = errQ 7) ∧ (keys.Nodup → (keys.length : Int) < (m : Int) → w = errQ 4) ∧ (keys.Nodup → ¬ (keys.length : Int) < (m : Int) → w = ⟨0, ⟨chooseL keys seed m, needQ m⟩⟩)) := ⟨hq7, hq4, hq0⟩
        clear hq7 hq4 hq0
        have hsort := fun (b1 : Blk) (ver : Nat) (o : Bool) (ho : keys.length ≠ 0 → o = true) => lib_Sort_int 0 [⟨2, 0, [.int .i64 seed], 0, true⟩, b1, ⟨2, 1, intE.flat (keys ++ []), ver, o⟩] 2 ver o none keys [] rfl ho (Nat.zero_le _) (by omega) (kap seed) 135 #[.pointer (some ⟨0, 0, some 0⟩)] #[ip [.int .i64 seed]]
          (fun b => .cons (Bor.ptrL rfl rfl rfl ⟨_, .cons (.same _ (.flat _ rfl)) .nil, rfl⟩ (by simp)) .nil) (fun x hx y hy => impl_rankCmp seed x y (hv x hx) (hv y hy))
        simp only [List.append_nil] at hsort
        refine NCalls.of ?_; refine ACalls.enter (n := 59) (rs := [.cell 6 94]) Try.func49 rfl rfl rfl (by kernel_rfl) (by kernel_rfl) (by kernel_rfl) (Nat.le_of_ble_eq_true rfl) ?_
        repeat' (first | (refine ACalls.start ?_; first | (refine ACalls.ofJi (impl_areKeys keys (by omega)) rfl ?_) | (refine ACalls.ofJi (impl_within _ _ _) rfl ?_) | (refine ACalls.get (lib_Clone_int_own _ keys hn) (by first | exact Nat.le_refl _ | exact Nat.zero_le _ | (simp only [List.length_append, List.length_cons, List.length_nil]; omega) | (simp only [List.length_set]; omega) | omega) (by first | exact Nat.le_refl _ | exact Nat.zero_le _ | (simp only [List.length_append, List.length_cons, List.length_nil]; omega) | (simp only [List.length_set]; omega) | omega) ?_; rintro _ _ ⟨ver, o, ho, rfl, rfl⟩) | (refine ACalls.get (hsort _ _ _ (by assumption)) (by first | exact Nat.le_refl _ | exact Nat.zero_le _ | (simp only [List.length_append, List.length_cons, List.length_nil]; omega) | (simp only [List.length_set]; omega) | omega) (by first | exact Nat.le_refl _ | exact Nat.zero_le _ | (simp only [List.length_append, List.length_cons, List.length_nil]; omega) | (simp only [List.length_set]; omega) | omega) ?_; rintro _ _ ⟨ys, hyp, hys, rfl⟩)) | (refine qcall_start ?_; first | (refine qcallFi (impl_areKeys keys (by omega)) rfl ?_ ?_; (focus ((first | exact rfl | (simp [pureV, flatV, quorumE_val, quorumE_sz, quorumResultE_val, quorumResultE_sz, Int.reduceToNat, Int.cast_ofNat_Int, sb_eq]; done))))) | (refine qcallFi (impl_within _ _ _) rfl ?_ ?_; (focus ((first | exact rfl | (simp [pureV, flatV, quorumE_val, quorumE_sz, quorumResultE_val, quorumResultE_sz, Int.reduceToNat, Int.cast_ofNat_Int, sb_eq]; done)))))) | (refine KV.run _ ?_) | (refine KQ.run _ ?_) | (refine KT.run _ ?_) | (refine AWp.seqH fun KC => ?_) | (refine AWp.block ?_) | (refine AWp.region ?_) | (refine mops_step0 rfl rfl fun KC => ?_) | (refine mops_step1 rfl fun KC => ?_) | (refine mops_step2 rfl fun KC => ?_) | (refine AWp.ret ?_) | (refine AWp.skip ?_) | (refine AWp.exit ?_) | (refine aops_callH rfl fun kC => ?_) | (refine qops_callH rfl fun kC => ?_) | (refine AWp.condB ?_) | (simp only [bse, wk, tys, storeH_ptr, Nat.reduceEqDiff, ↓reduceIte, reduceCtorEq, Nat.reduceAdd, Nat.reduceLeDiff, Int.reduceBEq, Int.reduceLT, Int.reduceLE, Int.reduceEq, ne_eq, not_false_eq_true, Nat.reduceMul, quorumE_val, quorumE_sz, quorumResultE_val, quorumResultE_sz, Int.reduceToNat, Int.cast_ofNat_Int, sb_eq, *]) | (refine condK_bool (fun hb => ?_) (fun hb => ?_) <;> ((try simp only [Bool.not_eq_true', Bool.not_eq_false'] at hb) <;> (try (have hbe := of_decide_eq_true hb)) <;> (try (have hbe := eq_of_beq hb)))) | (refine aops_partB ?_) | (refine qops_partB ?_))
        have hyl : Hid (keys.length = ys.length) := hyp.length_eq.symm
        have hyn : ys.length ≤ 1048576 := by have := hyl.out; omega
        have hoy : ys.length ≠ 0 → o = true := fun h => ho (by have := hyl.out; omega)
        have hvy : ∀ y ∈ ys, inB y 1 999 = true := fun y hy => hv y (hyp.mem_iff.1 hy)
        have hadj := adj_dup hvy hys
        have hm8 : m ≤ 8 := by omega
        clear hsort hk hse hin hvy
        refine ACalls.get ((lib_Clone_intF ys hyn).use clone_sh (.cons (Bor.sbE (E := intE) (el := 2) (ver := ver) (o := o) (ys := ys) rfl hoy hyl.out) .nil)) (by first | exact Nat.le_refl _ | exact Nat.zero_le _ | (simp only [List.length_append, List.length_cons, List.length_nil]; omega) | (simp only [List.length_set]; omega) | omega) (by first | exact Nat.le_refl _ | exact Nat.zero_le _ | (simp only [List.length_append, List.length_cons, List.length_nil]; omega) | (simp only [List.length_set]; omega) | omega) ?_
        rintro _ _ ⟨_, _, ⟨ver2, o2, ho2, rfl, rfl⟩, rfl, rfl⟩
        by_cases hnd : keys.Nodup
        · have hna : adjB ys = false := by
            cases hq : adjB ys with
            | false => rfl
            | true => exact absurd (hyp.nodup_iff.2 hnd) (hadj.1 hq)
          have hcp : ∀ (b0 b1 b2 : Blk), ACalls Try.prog 0 138 [.slice (some ⟨3, 0, none⟩) ys.length ver2] [b0, b1, b2, ⟨2, 1, intE.flat ys, ver2, o2⟩] fun d H' => ∃ (sp : Option Nat) (b : Blk), d = .slice (some ⟨3, 0, sp⟩) keys.length ver2 ∧ H' = [b0, b1, b2, b] ∧ b.ver = ver2 := fun b0 b1 b2 =>
            (lib_Compact_int [b0, b1, b2, ⟨2, 1, intE.flat ys, ver2, o2⟩] 3 ver2 o2 0 ys rfl ho2 (Nat.zero_le _) hyn).mono fun d H' ⟨n', sp, b, h1, h2, h3, _, h5⟩ => ⟨sp, b, by rw [h1, h5 hna, hyl.out], by rw [h2]; rfl, h3⟩
          have hirr : ¬ (keys.length : Int) < (keys.length : Int) := by omega
          clear hadj hna
          by_cases hln : (keys.length : Int) < (m : Int)
          · have hq := hwH.out.2.1 hnd hln
            have hqH : Hid (w = errQ 4) := hq
            clear hq hwH
            repeat' (first | (refine ACalls.start ?_; first | (refine ACalls.get (hcp _ _ _) (by first | exact Nat.le_refl _ | exact Nat.zero_le _ | (simp only [List.length_append, List.length_cons, List.length_nil]; omega) | (simp only [List.length_set]; omega) | omega) (by first | exact Nat.le_refl _ | exact Nat.zero_le _ | (simp only [List.length_append, List.length_cons, List.length_nil]; omega) | (simp only [List.length_set]; omega) | omega) ?_; rintro _ _ ⟨sp, b, rfl, rfl, hbv⟩)) | (refine KV.run _ ?_) | (refine KQ.run _ ?_) | (refine KT.run _ ?_) | (refine AWp.seqH fun KC => ?_) | (refine AWp.block ?_) | (refine AWp.region ?_) | (refine mops_step0 rfl rfl fun KC => ?_) | (refine mops_step1 rfl fun KC => ?_) | (refine mops_step2 rfl fun KC => ?_) | (refine AWp.ret ?_) | (refine AWp.skip ?_) | (refine AWp.exit ?_) | (refine aops_callH rfl fun kC => ?_) | (refine qops_callH rfl fun kC => ?_) | (refine AWp.condB ?_) | (simp only [bse, wk, tys, storeH_ptr, Nat.reduceEqDiff, ↓reduceIte, reduceCtorEq, Nat.reduceAdd, Nat.reduceLeDiff, Int.reduceBEq, Int.reduceLT, Int.reduceLE, Int.reduceEq, ne_eq, not_false_eq_true, Nat.reduceMul, quorumE_val, quorumE_sz, quorumResultE_val, quorumResultE_sz, Int.reduceToNat, Int.cast_ofNat_Int, sb_eq, *]) | (refine condK_bool (fun hb => ?_) (fun hb => ?_) <;> ((try simp only [Bool.not_eq_true', Bool.not_eq_false'] at hb) <;> (try (have hbe := of_decide_eq_true hb)) <;> (try (have hbe := eq_of_beq hb)))) | (refine aops_partB ?_) | (refine qops_partB ?_))
            rw [hqH.out]
            exact ⟨[], by simp, OwnL.aggL (.flat rfl (.nils (.flat rfl .nil)))⟩
          · have hqH : Hid (w = ⟨0, ⟨chooseL keys seed m, needQ m⟩⟩) := hwH.out.2.2 hnd hln
            have hown : o = true := ho (by omega)
            subst hown
            have hsl3 := fun (b0 b1 b : Blk) => slV_own3 (H := [b0, b1, ⟨2, 1, intE.flat ys, ver, true⟩, b]) (r := 2) (ver := ver) (n := keys.length) (i := m) (t := 25) (kd := .i64) (kd' := .i64) elZ25 rfl rfl rfl rfl (by omega)
            have hlt : (ys.take m).length = m := by rw [List.length_take]; have := hyl.out; omega
            have hso := fun (b0 b1 b : Blk) => lib_SortO_int 0 [b0, b1, ⟨2, 1, intE.flat (ys.take m ++ ys.drop m), ver, true⟩, b] 2 ver true (some m) (ys.take m) (ys.drop m) rfl (fun _ => rfl) (Nat.zero_le _) (by omega)
            simp only [List.take_append_drop] at hso
            rw [hlt] at hso
            have w1 : IntKind.i64.wrap ((m : Int) * 2) = (m : Int) * 2 := by rw [wr] <;> omega
            have w2 : ((m : Int) * 2).tdiv 3 = ((m * 2 / 3 : Nat) : Int) := tdiv_nat (m * 2) 3
            have w3 : IntKind.i64.wrap (((m * 2 / 3 : Nat) : Int)) = ((m * 2 / 3 : Nat) : Int) := by rw [wr] <;> omega
            have w4 : IntKind.i64.wrap (((m * 2 / 3 : Nat) : Int) + 1) = ((m * 2 / 3 : Nat) : Int) + 1 := by rw [wr] <;> omega
            have w5 : Hid (needQ m = ((m * 2 / 3 : Nat) : Int) + 1) := by unfold Hid needQ; rw [w2]
            have hfin : ∀ zs : List Int, zs.Perm (ys.take m) → (zs.Pairwise fun a b => id a ≤ id b) → zs = chooseL keys seed m := fun zs h1 h2 => choose_sorted hv hnd hyp hys h1 h2
            clear hwH hv hyp hys hlt
            repeat' (first | (refine ACalls.start ?_; first | (refine ACalls.get (hcp _ _ _) (by first | exact Nat.le_refl _ | exact Nat.zero_le _ | (simp only [List.length_append, List.length_cons, List.length_nil]; omega) | (simp only [List.length_set]; omega) | omega) (by first | exact Nat.le_refl _ | exact Nat.zero_le _ | (simp only [List.length_append, List.length_cons, List.length_nil]; omega) | (simp only [List.length_set]; omega) | omega) ?_; rintro _ _ ⟨sp, b, rfl, rfl, hbv⟩) | (refine ACalls.get (hso _ _ _) (by first | exact Nat.le_refl _ | exact Nat.zero_le _ | (simp only [List.length_append, List.length_cons, List.length_nil]; omega) | (simp only [List.length_set]; omega) | omega) (by first | exact Nat.le_refl _ | exact Nat.zero_le _ | (simp only [List.length_append, List.length_cons, List.length_nil]; omega) | (simp only [List.length_set]; omega) | omega) ?_; rintro _ _ ⟨zs, hz1, hz2, rfl⟩)) | (refine KV.run _ ?_) | (refine KQ.run _ ?_) | (refine KT.run _ ?_) | (refine AWp.seqH fun KC => ?_) | (refine AWp.block ?_) | (refine AWp.region ?_) | (refine mops_step0 rfl rfl fun KC => ?_) | (refine mops_step1 rfl fun KC => ?_) | (refine mops_step2 rfl fun KC => ?_) | (refine AWp.ret ?_) | (refine AWp.skip ?_) | (refine AWp.exit ?_) | (refine aops_callH rfl fun kC => ?_) | (refine qops_callH rfl fun kC => ?_) | (refine AWp.condB ?_) | (simp only [bse, wk, tys, storeH_ptr, Nat.reduceEqDiff, ↓reduceIte, reduceCtorEq, Nat.reduceAdd, Nat.reduceLeDiff, Int.reduceBEq, Int.reduceLT, Int.reduceLE, Int.reduceEq, ne_eq, not_false_eq_true, Nat.reduceMul, quorumE_val, quorumE_sz, quorumResultE_val, quorumResultE_sz, Int.reduceToNat, Int.cast_ofNat_Int, sb_eq, *]) | (refine condK_bool (fun hb => ?_) (fun hb => ?_) <;> ((try simp only [Bool.not_eq_true', Bool.not_eq_false'] at hb) <;> (try (have hbe := of_decide_eq_true hb)) <;> (try (have hbe := eq_of_beq hb)))) | (refine aops_partB ?_) | (refine qops_partB ?_))
            have hzl : zs.length = m := by rw [hz1.length_eq, List.length_take]; have := hyl.out; omega
            rw [hqH.out, w5.out, ← hfin zs hz1 hz2]
            exact ⟨[2], by simp, OwnL.aggL (.flat rfl (OwnL.append (OwnL.sl (E := intE) (rest := intE.flat (ys.drop m)) (by rw [← intE.flat_append]; rfl) (fun _ => rfl) hzl.symm (intE_flat _) (by simp)) (.flat rfl .nil)))⟩
        · have hya : adjB ys = true := hadj.2 fun h => hnd (hyp.nodup_iff.1 h)
          have hcp : ∀ (b0 b1 b2 : Blk), ACalls Try.prog 0 138 [.slice (some ⟨3, 0, none⟩) ys.length ver2] [b0, b1, b2, ⟨2, 1, intE.flat ys, ver2, o2⟩] fun d H' => ∃ (n' : Nat) (sp : Option Nat) (b : Blk), d = .slice (some ⟨3, 0, sp⟩) n' ver2 ∧ H' = [b0, b1, b2, b] ∧ b.ver = ver2 ∧ (n' : Int) < (keys.length : Int) := fun b0 b1 b2 =>
            (lib_Compact_int [b0, b1, b2, ⟨2, 1, intE.flat ys, ver2, o2⟩] 3 ver2 o2 0 ys rfl ho2 (Nat.zero_le _) hyn).mono fun d H' ⟨n', sp, b, h1, h2, h3, h4, _⟩ => ⟨n', sp, b, h1, by rw [h2]; rfl, h3, by have := h4 hya; have := hyl.out; omega⟩
          have hqH : Hid (w = errQ 7) := hwH.out.1 hnd
          clear hwH hadj hya
          repeat' (first | (refine ACalls.start ?_; first | (refine ACalls.get (hcp _ _ _) (by first | exact Nat.le_refl _ | exact Nat.zero_le _ | (simp only [List.length_append, List.length_cons, List.length_nil]; omega) | (simp only [List.length_set]; omega) | omega) (by first | exact Nat.le_refl _ | exact Nat.zero_le _ | (simp only [List.length_append, List.length_cons, List.length_nil]; omega) | (simp only [List.length_set]; omega) | omega) ?_; rintro _ _ ⟨n', sp, b, rfl, rfl, hbv, hlt⟩)) | (refine KV.run _ ?_) | (refine KQ.run _ ?_) | (refine KT.run _ ?_) | (refine AWp.seqH fun KC => ?_) | (refine AWp.block ?_) | (refine AWp.region ?_) | (refine mops_step0 rfl rfl fun KC => ?_) | (refine mops_step1 rfl fun KC => ?_) | (refine mops_step2 rfl fun KC => ?_) | (refine AWp.ret ?_) | (refine AWp.skip ?_) | (refine AWp.exit ?_) | (refine aops_callH rfl fun kC => ?_) | (refine qops_callH rfl fun kC => ?_) | (refine AWp.condB ?_) | (simp only [bse, wk, tys, storeH_ptr, Nat.reduceEqDiff, ↓reduceIte, reduceCtorEq, Nat.reduceAdd, Nat.reduceLeDiff, Int.reduceBEq, Int.reduceLT, Int.reduceLE, Int.reduceEq, ne_eq, not_false_eq_true, Nat.reduceMul, quorumE_val, quorumE_sz, quorumResultE_val, quorumResultE_sz, Int.reduceToNat, Int.cast_ofNat_Int, sb_eq, *]) | (refine condK_bool (fun hb => ?_) (fun hb => ?_) <;> ((try simp only [Bool.not_eq_true', Bool.not_eq_false'] at hb) <;> (try (have hbe := of_decide_eq_true hb)) <;> (try (have hbe := eq_of_beq hb)))) | (refine aops_partB ?_) | (refine qops_partB ?_))
          rw [hqH.out]
          exact ⟨[], by simp, OwnL.aggL (.flat rfl (.nils (.flat rfl .nil)))⟩
end Go.BM
