/- FnChooses: of a coin a voter chooses one, for ever. -/
import Derived.Test.YtolecdkkecnkkaaT12
import Derived.Test.YtolecdkkecnkkaaT25
import Derived.Test.YtolecdkkecnkkaaT32
import Derived.Test.YtolecdkkecnkkaaT42
set_option linter.unusedVariables false
set_option linter.unusedSimpArgs false
set_option maxRecDepth 100000
set_option maxHeartbeats 4000000
namespace Go.BM
open Go.Proofs Go.RowKit
attribute [local irreducible] ACalls AWp aops qops optK optP cK gateA condK mops qcallK PCalls loadV fldV idxV lenV slV storeH binS
theorem chGo_app (x : TChoice) (hr : refB x.ref = true) (ht : inB x.tx 1 60 = true) : ∀ (xs pre : List TChoice), chGo pre xs = 0 → (pre ++ xs).any (fun y => sameRef y.ref x.ref) = false → chGo pre (xs ++ [x]) = 0
  | [], pre, h, ha => by
    rw [List.append_nil] at ha
    simp [chGo, hr, ht, ha]
  | y :: l, pre, h, ha => by
    unfold chGo at h
    rw [List.cons_append]
    unfold chGo
    by_cases h1 : (!refB y.ref || !inB y.tx 1 60) = true
    · rw [if_pos h1] at h; cases h
    · rw [if_neg h1] at h ⊢
      by_cases h2 : pre.any (fun z => sameRef z.ref y.ref) = true
      · rw [if_pos h2] at h; cases h
      · rw [if_neg h2] at h ⊢
        exact chGo_app x hr ht l _ h (by rw [List.append_assoc]; exact ha)
theorem chTx_at {v : TVoter} {r : TRef} {k : Nat} (hk : k < v.choices.length) (h1 : sameRef v.choices[k].ref r = true) (h2 : ∀ j (hj : j < v.choices.length), j < k → sameRef v.choices[j].ref r = false) : ¬ chAt v r < 0 ∧ chTx v r = v.choices[k].tx := by
  have e : chAt v r = k := findI_hit _ _ k hk h2 h1
  have h0 : ¬ chAt v r < 0 := by omega
  refine ⟨h0, ?_⟩
  unfold chTx
  rw [if_neg h0, e]
  simp [List.getElem?_eq_getElem hk]
theorem sameRef_eq {a b : TRef} (h : sameRef a b = true) : a = b := by
  obtain ⟨a1, a2⟩ := a
  obtain ⟨b1, b2⟩ := b
  unfold sameRef at h
  simp at h
  rw [h.1, h.2]
theorem chooses_facts (v : TVoter) (r : TRef) (tx : Int) (hz : ((chooseForF v r tx).code == 0) = true) : ∃ zs : List TChoice,
    chooseForF v r tx = ⟨0, ⟨v.key, 2, 0, r, tx⟩, ⟨v.key, v.last, zs⟩⟩ ∧ zs.length ≤ 40 ∧ chooseForF ⟨v.key, v.last, zs⟩ r tx = ⟨0, ⟨v.key, 2, 0, r, tx⟩, ⟨v.key, v.last, zs⟩⟩ ∧
      chooseForF ⟨v.key, v.last, zs⟩ r (tx.tmod 60 + 1) = ⟨7, ⟨0, 0, 0, ⟨0, 0⟩, 0⟩, ⟨0, 0, []⟩⟩ ∧ voterFault ⟨v.key, v.last, zs⟩ = 0 ∧ newVoterF v.key = ⟨0, vote0, ⟨v.key, 0, []⟩⟩ ∧
      chooseForF ⟨v.key, 0, []⟩ r tx = ⟨0, ⟨v.key, 2, 0, r, tx⟩, ⟨v.key, 0, [⟨r, tx⟩]⟩⟩ ∧ 1 ≤ tx ∧ tx ≤ 60 := by
  have hz' := hz
  unfold chooseForF at hz
  cases hf : (voterFault v == 0) with
  | false => rw [hf] at hz; simp at hz; simp [hz] at hf
  | true =>
    cases hr : refB r with
    | false => rw [hf, hr] at hz; simp at hz
    | true =>
      cases hi : inB tx 1 60 with
      | false => rw [hf, hr, hi] at hz; simp at hz
      | true =>
        have hv0 := eq_of_beq hf
        have htx : 1 ≤ tx ∧ tx ≤ 60 := by unfold inB at hi; simp at hi; exact hi
        have hkey : inB v.key 1 999 = true ∧ inB v.last 0 60 = true ∧ v.choices.length ≤ 40 ∧ chGo [] v.choices = 0 := by
          have hv1 := hv0
          unfold voterFault at hv1
          cases i1 : inB v.key 1 999 <;> cases i2 : inB v.last 0 60 <;> simp [i1, i2] at hv1 ⊢
          split at hv1
          · cases hv1
          · exact ⟨by omega, hv1⟩
        -- the choices that come of it
        have hex : ∃ zs : List TChoice, chooseForF v r tx = ⟨0, ⟨v.key, 2, 0, r, tx⟩, ⟨v.key, v.last, zs⟩⟩ ∧ zs.length ≤ 40 ∧ voterFault ⟨v.key, v.last, zs⟩ = 0 ∧ ¬ chAt ⟨v.key, v.last, zs⟩ r < 0 ∧ chTx ⟨v.key, v.last, zs⟩ r = tx := by
          rw [hf, hr, hi] at hz
          simp only [Bool.not_true, Bool.or_self, Bool.false_eq_true, if_true, if_false] at hz
          unfold chooseF at hz
          have hd : chooseForF v r tx = chooseF v r tx := by unfold chooseForF; rw [hf, hr, hi]; simp
          rw [hd]
          unfold chooseF
          by_cases ha : chAt v r < 0
          · by_cases h40 : 40 ≤ v.choices.length
            · simp [ha, h40] at hz
            · simp only [ha, h40, if_true, if_false]
              have hno : ∀ j (hj : j < v.choices.length), sameRef v.choices[j].ref r = false := fun j hj => by
                cases hs : sameRef v.choices[j].ref r with
                | false => rfl
                | true =>
                  have h1 := findI_any (fun y => sameRef y.ref r) v.choices
                  have h2 : v.choices.any (fun y => sameRef y.ref r) = true := List.any_eq_true.2 ⟨_, List.getElem_mem hj, hs⟩
                  rw [h2] at h1
                  have h3 := of_decide_eq_true h1
                  unfold chAt at ha
                  omega
              have hany : v.choices.any (fun y => sameRef y.ref r) = false := by
                rw [List.any_eq_false]
                intro y hy
                obtain ⟨j, hj, rfl⟩ := List.getElem_of_mem hy
                rw [hno j hj]; decide
              have hl : v.choices.length < (v.choices ++ [(⟨r, tx⟩ : TChoice)]).length := by simp
              have hat := chTx_at (v := ⟨v.key, v.last, v.choices ++ [⟨r, tx⟩]⟩) (r := r) (k := v.choices.length) hl (by simp [sameRef_self]) (fun j hj hjk => by
                show sameRef ((v.choices ++ [(⟨r, tx⟩ : TChoice)])[j]'(by simp; omega)).ref r = false
                rw [List.getElem_append_left hjk]; exact hno j hjk)
              refine ⟨_, rfl, by simp; omega, ?_, hat.1, ?_⟩
              · unfold voterFault
                have h41 : ¬ (40 : Int) < ((v.choices ++ [⟨r, tx⟩] : List TChoice).length : Int) := by simp; omega
                simp only [hkey.1, hkey.2.1, Bool.not_true, Bool.or_self, Bool.false_eq_true, if_false, h41, decide_false]
                exact chGo_app ⟨r, tx⟩ hr hi _ _ hkey.2.2.2 (by simpa using hany)
              · rw [hat.2]; simp
          · simp only [ha, if_false] at hz ⊢
            cases he : (chTx v r == tx) with
            | false => rw [he] at hz; simp at hz
            | true =>
              simp only [if_true]
              exact ⟨v.choices, rfl, hkey.2.2.1, hv0, ha, eq_of_beq he⟩
        obtain ⟨zs, e1, h40, hvf, hat, htq⟩ := hex
        have hm : tx.tmod 60 = if tx < 60 then tx else 0 := by
          rw [Int.tmod_eq_emod_of_nonneg (by omega)]
          split <;> omega
        have hi2 : inB (tx.tmod 60 + 1) 1 60 = true := by unfold inB; rw [hm]; split <;> simp <;> omega
        have hne : (tx == tx.tmod 60 + 1) = false := by rw [beq_eq_false_iff_ne, hm]; split <;> omega
        have hnv : voterFault ⟨v.key, 0, []⟩ = 0 := by
          show (if !inB v.key 1 999 || !inB 0 0 60 then (3 : Int) else if decide ((40 : Int) < (([] : List TChoice).length : Int)) then 2 else chGo [] []) = 0
          rw [hkey.1]
          rfl
        refine ⟨zs, e1, h40, ?_, ?_, hvf, ?_, ?_, htx.1, htx.2⟩
        · unfold chooseForF chooseF
          simp [hvf, hr, hi, hat, htq]
        · unfold chooseForF chooseF
          simp [hvf, hr, hi2, hat, htq, hne]
        · unfold newVoterF
          simp [hkey.1]
        · unfold chooseForF chooseF
          simp [hnv, hr, hi, chAt, findI]
theorem law_FnChooses (code : List UInt8) (hl : code.length ≤ 9223372036854775807) : PCalls Try.prog 3 [islE byteE code] (.bool true) := by
  by_cases hbig : (1048576 : Int) < (code.length : Int)
  · refine PCalls.flat rfl ?_; refine ACalls.enter (n := 116) (rs := [.tmp 2]) Try.func3 rfl rfl rfl (by kernel_rfl) (by kernel_rfl) (by kernel_rfl) (Nat.le_of_ble_eq_true rfl) ?_
    repeat' (first | (refine AWp.mixed (id := 6) [(0, 0), (1, 0), (2, 0), (5, 0), (6, 0), (3, 1), (4, 0), (7, 0), (8, 0)] (by kernel_rfl) (by kernel_rfl) ?_) | (refine ACalls.start ?_; first | (refine ACalls.ofJi (laws_lwBig code hl) rfl ?_)) | (refine qcall_start ?_; first | (refine qcallFi (laws_lwBig code hl) rfl ?_ ?_; (focus ((first | exact rfl | (simp [pureV, flatV, srcB_eq, voterE_val, voterE_sz, voteE_val, voteE_sz, refE_val, refE_sz, voterResultE_val, List.append_eq, List.cons_append, List.nil_append]; done)))))) | (refine KV.run _ ?_) | (refine KQ.run _ ?_) | (refine KT.run _ ?_) | (refine AWp.seqH fun KC => ?_) | (refine AWp.block ?_) | (refine AWp.region ?_) | (refine mops_step0 rfl rfl fun KC => ?_) | (refine mops_step1 rfl fun KC => ?_) | (refine mops_step2 rfl fun KC => ?_) | (refine AWp.ret ?_) | (refine AWp.skip ?_) | (refine AWp.exit ?_) | (refine aops_callH rfl fun kC => ?_) | (refine qops_callH rfl fun kC => ?_) | (refine AWp.condB ?_) | (simp only [bse, wk, tys, storeH_ptr, Nat.reduceEqDiff, ↓reduceIte, reduceCtorEq, Nat.reduceAdd, Nat.reduceLeDiff, Int.reduceBEq, Int.reduceLT, Int.reduceLE, Int.reduceEq, ne_eq, not_false_eq_true, Nat.reduceMul, srcB_eq, voterE_val, voterE_sz, voteE_val, voteE_sz, refE_val, refE_sz, voterResultE_val, List.append_eq, List.cons_append, List.nil_append, *]) | (refine condK_bool (fun hb => ?_) (fun hb => ?_) <;> ((try simp only [Bool.not_eq_true', Bool.not_eq_false'] at hb) <;> (try (have hbe := of_decide_eq_true hb)) <;> (try (have hbe := eq_of_beq hb)))) | (refine aops_partB ?_) | (refine qops_partB ?_))
  have hcl : code.length ≤ 1048576 := by omega
  refine PCalls.flat rfl ?_; refine ACalls.enter (n := 116) (rs := [.tmp 2]) Try.func3 rfl rfl rfl (by kernel_rfl) (by kernel_rfl) (by kernel_rfl) (Nat.le_of_ble_eq_true rfl) ?_
  repeat' (first | (refine AWp.mixed (id := 6) [(0, 0), (1, 0), (2, 0), (5, 0), (6, 0), (3, 1), (4, 0), (7, 0), (8, 0)] (by kernel_rfl) (by kernel_rfl) ?_) | (refine ACalls.start ?_; first | (refine ACalls.ofJi (laws_lwBig code hl) rfl ?_)) | (refine qcall_start ?_; first | (refine qcallFi (laws_lwBig code hl) rfl ?_ ?_; (focus ((first | exact rfl | (simp [pureV, flatV, srcB_eq, voterE_val, voterE_sz, voteE_val, voteE_sz, refE_val, refE_sz, voterResultE_val, List.append_eq, List.cons_append, List.nil_append]; done)))))) | (refine KV.run _ ?_) | (refine KQ.run _ ?_) | (refine KT.run _ ?_) | (refine AWp.seqH fun KC => ?_) | (refine AWp.block ?_) | (refine AWp.region ?_) | (refine mops_step0 rfl rfl fun KC => ?_) | (refine mops_step1 rfl fun KC => ?_) | (refine mops_step2 rfl fun KC => ?_) | (refine AWp.ret ?_) | (refine AWp.skip ?_) | (refine AWp.exit ?_) | (refine aops_callH rfl fun kC => ?_) | (refine qops_callH rfl fun kC => ?_) | (refine AWp.condB ?_) | (simp only [bse, wk, tys, storeH_ptr, Nat.reduceEqDiff, ↓reduceIte, reduceCtorEq, Nat.reduceAdd, Nat.reduceLeDiff, Int.reduceBEq, Int.reduceLT, Int.reduceLE, Int.reduceEq, ne_eq, not_false_eq_true, Nat.reduceMul, srcB_eq, voterE_val, voterE_sz, voteE_val, voteE_sz, refE_val, refE_sz, voterResultE_val, List.append_eq, List.cons_append, List.nil_append, *]) | (refine condK_bool (fun hb => ?_) (fun hb => ?_) <;> ((try simp only [Bool.not_eq_true', Bool.not_eq_false'] at hb) <;> (try (have hbe := of_decide_eq_true hb)) <;> (try (have hbe := eq_of_beq hb)))) | (refine aops_partB ?_) | (refine qops_partB ?_))
  refine ACalls.get ((spec_DrawChooseFor code hcl).use (by repeat' (first | exact Im.nilL | refine Im.consL ?_ ?_ | refine Im.appL ?_ ?_ | exact Im.flat _ rfl | exact islE_im _ _ | exact Enc.val_im _ _ | assumption | refine Im.aggL ?_ | refine Im.funcL ?_ | refine Im.funcA ?_ | refine Im.isl ?_ | refine Im.ip ?_))) (by first | exact Nat.le_refl _ | exact Nat.zero_le _ | (simp only [List.length_append, List.length_cons, List.length_nil]; omega) | (simp only [List.length_set]; omega) | omega) (by first | exact Nat.le_refl _ | exact Nat.zero_le _ | (simp only [List.length_append, List.length_cons, List.length_nil]; omega) | (simp only [List.length_set]; omega) | omega) ?_
  rintro _ _ ⟨⟨⟨key, last, ys⟩, ⟨rt, ra⟩, tx, rfl, hy⟩, _, rfl⟩
  dsimp only at hy
  have y6 : ∀ k l, nVoter ⟨k, l, ys⟩ ≤ 1048576 := fun k l => by simp [nVoter]; omega
  have hi := (impl_ChooseFor ⟨key, last, ys⟩ ⟨rt, ra⟩ tx (y6 _ _)).p
  have hs := spec_ChooseFor ⟨key, last, ys⟩ ⟨rt, ra⟩ tx (y6 _ _)
  cases hz : ((chooseForF ⟨key, last, ys⟩ ⟨rt, ra⟩ tx).code == 0) with
  | false =>
    generalize chooseForF ⟨key, last, ys⟩ ⟨rt, ra⟩ tx = r at hi hs hz
    obtain ⟨c, ⟨a1, a2, a3, ⟨a4', a5⟩, a6⟩, ⟨b1, b2, zs⟩⟩ := r
    dsimp only at hz
    simp only [voterResultE_val] at hi hs
    repeat' (first | (refine AWp.mixed (id := 6) [(0, 0), (1, 0), (2, 0), (5, 0), (6, 0), (3, 1), (4, 0), (7, 0), (8, 0)] (by kernel_rfl) (by kernel_rfl) ?_) | (refine ACalls.start ?_; first | (refine ACalls.ofJi (hi) rfl ?_) | (refine ACalls.ofJi (hs) rfl ?_)) | (refine qcall_start ?_; first | (refine qcallFi (hi) rfl ?_ ?_; (focus ((first | exact rfl | (simp [pureV, flatV, srcB_eq, voterE_val, voterE_sz, voteE_val, voteE_sz, refE_val, refE_sz, voterResultE_val, List.append_eq, List.cons_append, List.nil_append]; done))))) | (refine qcallFi (hs) rfl ?_ ?_; (focus ((first | exact rfl | (simp [pureV, flatV, srcB_eq, voterE_val, voterE_sz, voteE_val, voteE_sz, refE_val, refE_sz, voterResultE_val, List.append_eq, List.cons_append, List.nil_append]; done)))))) | (refine KV.run _ ?_) | (refine KQ.run _ ?_) | (refine KT.run _ ?_) | (refine AWp.seqH fun KC => ?_) | (refine AWp.block ?_) | (refine AWp.region ?_) | (refine mops_step0 rfl rfl fun KC => ?_) | (refine mops_step1 rfl fun KC => ?_) | (refine mops_step2 rfl fun KC => ?_) | (refine AWp.ret ?_) | (refine AWp.skip ?_) | (refine AWp.exit ?_) | (refine aops_callH rfl fun kC => ?_) | (refine qops_callH rfl fun kC => ?_) | (refine AWp.condB ?_) | (simp only [bse, wk, tys, storeH_ptr, Nat.reduceEqDiff, ↓reduceIte, reduceCtorEq, Nat.reduceAdd, Nat.reduceLeDiff, Int.reduceBEq, Int.reduceLT, Int.reduceLE, Int.reduceEq, ne_eq, not_false_eq_true, Nat.reduceMul, srcB_eq, voterE_val, voterE_sz, voteE_val, voteE_sz, refE_val, refE_sz, voterResultE_val, List.append_eq, List.cons_append, List.nil_append, *]) | (refine condK_bool (fun hb => ?_) (fun hb => ?_) <;> ((try simp only [Bool.not_eq_true', Bool.not_eq_false'] at hb) <;> (try (have hbe := of_decide_eq_true hb)) <;> (try (have hbe := eq_of_beq hb)))) | (refine aops_partB ?_) | (refine qops_partB ?_))
  | true =>
    obtain ⟨zs, h1, h2, h3, h4, h5, h6, h7, t1, t2⟩ := chooses_facts ⟨key, last, ys⟩ ⟨rt, ra⟩ tx hz
    dsimp only at h1 h3 h4 h5 h6 h7
    rw [h1] at hi
    have z6 : ∀ k l, nVoter ⟨k, l, zs⟩ ≤ 1048576 := fun k l => by simp [nVoter]; omega
    have h3' := (impl_ChooseFor ⟨key, last, zs⟩ ⟨rt, ra⟩ tx (z6 _ _)).p
    rw [h3] at h3'
    have h4' := (impl_ChooseFor ⟨key, last, zs⟩ ⟨rt, ra⟩ (tx.tmod 60 + 1) (z6 _ _)).p
    rw [h4] at h4'
    have h5' := impl_VoterFault ⟨key, last, zs⟩ (by dsimp only; omega)
    rw [h5] at h5'
    have h6' := (impl_NewVoter key).p
    rw [h6] at h6'
    have h7' := (impl_ChooseFor ⟨key, 0, []⟩ ⟨rt, ra⟩ tx (by simp [nVoter])).p
    rw [h7] at h7'
    have hw : IntKind.i64.wrap (tx.tmod 60 + 1) = tx.tmod 60 + 1 := by
      rw [Int.tmod_eq_emod_of_nonneg (by omega)]
      rw [wr] <;> omega
    have hw0 : IntKind.i64.wrap (tx.tmod 60) = tx.tmod 60 := by
      rw [Int.tmod_eq_emod_of_nonneg (by omega)]
      rw [wr] <;> omega
    unfold vote0 at h6'
    simp only [voterResultE_val] at hi h3' h4' h6' h7'
    clear hz h1 h3 h4 h5 h6 h7 hs
    repeat' (first | (refine AWp.mixed (id := 6) [(0, 0), (1, 0), (2, 0), (5, 0), (6, 0), (3, 1), (4, 0), (7, 0), (8, 0)] (by kernel_rfl) (by kernel_rfl) ?_) | (refine ACalls.start ?_; first | (refine ACalls.ofJi (hi) rfl ?_) | (refine ACalls.ofJi (h3') rfl ?_) | (refine ACalls.ofJi (h4') rfl ?_) | (refine ACalls.ofJi (h5') rfl ?_) | (refine ACalls.ofJi (h6') rfl ?_) | (refine ACalls.ofJi (h7') rfl ?_)) | (refine qcall_start ?_; first | (refine qcallFi (hi) rfl ?_ ?_; (focus ((first | exact rfl | (simp [pureV, flatV, srcB_eq, voterE_val, voterE_sz, voteE_val, voteE_sz, refE_val, refE_sz, voterResultE_val, List.append_eq, List.cons_append, List.nil_append]; done))))) | (refine qcallFi (h3') rfl ?_ ?_; (focus ((first | exact rfl | (simp [pureV, flatV, srcB_eq, voterE_val, voterE_sz, voteE_val, voteE_sz, refE_val, refE_sz, voterResultE_val, List.append_eq, List.cons_append, List.nil_append]; done))))) | (refine qcallFi (h4') rfl ?_ ?_; (focus ((first | exact rfl | (simp [pureV, flatV, srcB_eq, voterE_val, voterE_sz, voteE_val, voteE_sz, refE_val, refE_sz, voterResultE_val, List.append_eq, List.cons_append, List.nil_append]; done))))) | (refine qcallFi (h5') rfl ?_ ?_; (focus ((first | exact rfl | (simp [pureV, flatV, srcB_eq, voterE_val, voterE_sz, voteE_val, voteE_sz, refE_val, refE_sz, voterResultE_val, List.append_eq, List.cons_append, List.nil_append]; done))))) | (refine qcallFi (h6') rfl ?_ ?_; (focus ((first | exact rfl | (simp [pureV, flatV, srcB_eq, voterE_val, voterE_sz, voteE_val, voteE_sz, refE_val, refE_sz, voterResultE_val, List.append_eq, List.cons_append, List.nil_append]; done))))) | (refine qcallFi (h7') rfl ?_ ?_; (focus ((first | exact rfl | (simp [pureV, flatV, srcB_eq, voterE_val, voterE_sz, voteE_val, voteE_sz, refE_val, refE_sz, voterResultE_val, List.append_eq, List.cons_append, List.nil_append]; done)))))) | (refine KV.run _ ?_) | (refine KQ.run _ ?_) | (refine KT.run _ ?_) | (refine AWp.seqH fun KC => ?_) | (refine AWp.block ?_) | (refine AWp.region ?_) | (refine mops_step0 rfl rfl fun KC => ?_) | (refine mops_step1 rfl fun KC => ?_) | (refine mops_step2 rfl fun KC => ?_) | (refine AWp.ret ?_) | (refine AWp.skip ?_) | (refine AWp.exit ?_) | (refine aops_callH rfl fun kC => ?_) | (refine qops_callH rfl fun kC => ?_) | (refine AWp.condB ?_) | (simp only [bse, wk, tys, storeH_ptr, Nat.reduceEqDiff, ↓reduceIte, reduceCtorEq, Nat.reduceAdd, Nat.reduceLeDiff, Int.reduceBEq, Int.reduceLT, Int.reduceLE, Int.reduceEq, ne_eq, not_false_eq_true, Nat.reduceMul, srcB_eq, voterE_val, voterE_sz, voteE_val, voteE_sz, refE_val, refE_sz, voterResultE_val, List.append_eq, List.cons_append, List.nil_append, *]) | (refine condK_bool (fun hb => ?_) (fun hb => ?_) <;> ((try simp only [Bool.not_eq_true', Bool.not_eq_false'] at hb) <;> (try (have hbe := of_decide_eq_true hb)) <;> (try (have hbe := eq_of_beq hb)))) | (refine aops_partB ?_) | (refine qops_partB ?_))
end Go.BM
