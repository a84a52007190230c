/- Ledgers: what the laws on signing ask. -/
import Derived.Test.YtolecdkkecnkkaaT44
import Derived.Test.YtolecdkkecnkkaaT19
import Derived.Test.YtolecdkkecnkkaaT32
set_option linter.unusedVariables false
set_option linter.unusedSimpArgs false
set_option maxRecDepth 100000
set_option maxHeartbeats 4000000
namespace Go.BM
open Go.Proofs Go.RowKit
attribute [local irreducible] ACalls AWp aops qops optK optP cK gateA condK mops qcallK PCalls loadV fldV idxV lenV slV storeH binS
theorem scanK_app {α : Type} (f : List α → α → Int) (y : α) : ∀ (xs pre : List α), scanK f 0 pre xs = 0 → f (pre ++ xs) y = 0 → scanK f 0 pre (xs ++ [y]) = 0
  | [], pre, _, h => by
    simp only [List.append_nil] at h
    simp [scanK, h]
  | x :: l, pre, h, h2 => by
    unfold scanK at h
    rw [List.cons_append]
    unfold scanK
    by_cases e : f pre x = 0
    · rw [if_pos (by simpa using e)] at h ⊢
      exact scanK_app f y l _ h (by simpa using h2)
    · rw [if_neg (by simpa using e)] at h
      exact absurd h e
theorem scanK_imp {α : Type} {f g : List α → α → Int} (hfg : ∀ pre x, f pre x = 0 → g pre x = 0) : ∀ (xs pre : List α), scanK f 0 pre xs = 0 → scanK g 0 pre xs = 0
  | [], pre, _ => rfl
  | x :: l, pre, h => by
    unfold scanK at h ⊢
    by_cases e : f pre x = 0
    · rw [if_pos (by simpa using e)] at h
      rw [if_pos (by simpa using hfg pre x e)]
      exact scanK_imp hfg l _ h
    · rw [if_neg (by simpa using e)] at h
      exact absurd h e
theorem scanK_K {α : Type} (f : List α → α → Int) (K : Int) : ∀ (xs pre : List α), scanK f K pre xs = 0 → scanK f 0 pre xs = 0
  | [], pre, h => rfl
  | x :: l, pre, h => by
    unfold scanK at h ⊢
    by_cases e : f pre x = 0
    · rw [if_pos (by simpa using e)] at h ⊢
      exact scanK_K f K l _ h
    · rw [if_neg (by simpa using e)] at h
      exact absurd h e
theorem ledger_zero {l : TLedger} : ledgerFault l = 0 ↔ l.texts.length ≤ 60 ∧ l.signs.length ≤ 120 ∧ scanK (sgF l.texts.length) 0 [] l.signs = 0 ∧ scanK txF 0 [] l.texts = 0 := by
  unfold ledgerFault
  by_cases h1 : (60 : Int) < (l.texts.length : Int)
  · simp [h1]; omega
  by_cases h2 : (120 : Int) < (l.signs.length : Int)
  · simp [h2]; omega
  simp only [h1, h2, decide_false, Bool.or_self, Bool.false_eq_true, if_false]
  constructor
  · intro h
    exact ⟨by omega, by omega, (scanK_zero _ _ _ _ h).1, scanK_K _ _ _ _ h⟩
  · rintro ⟨_, _, h3, h4⟩
    rw [h3]
    exact h4
theorem sgF_zero {n : Nat} {pre : List TSign} {x : TSign} : sgF n pre x = 0 ↔ inB x.key 1 999 = true ∧ inB x.id 1 n = true ∧ (pre.any fun y => x.key == y.key && x.id == y.id) = false := by
  unfold sgF
  cases h1 : inB x.key 1 999 <;> cases h2 : inB x.id 1 n <;> cases h3 : (pre.any fun y => x.key == y.key && x.id == y.id) <;> simp
def hasF (l : TLedger) (key id : Int) : Bool := ledgerFault l == 0 && sgIn l.signs key id
theorem impl_HasSign (l : TLedger) (key id : Int) (h1 : l.texts.length ≤ 1048576) (h2 : l.signs.length ≤ 1048576) : PCalls Try.prog 21 [ledgerE.val l, .int .i64 key, .int .i64 id] (.bool (hasF l key id)) := by
  unfold hasF
  have hs := impl_hasSign l key id h2
  cases hf : (ledgerFault l == 0) with
  | true =>
    cases hg : sgIn l.signs key id <;> rw [hg] at hs
    all_goals
      refine PCalls.flat rfl ?_; refine ACalls.enter (n := 16) (rs := [.tmp 6]) Try.func21 rfl rfl rfl (by kernel_rfl) (by kernel_rfl) (by kernel_rfl) (Nat.le_of_ble_eq_true rfl) ?_
      repeat' (first | (refine ACalls.start ?_; first | (refine ACalls.ofJi (impl_LedgerFault l h1 h2) rfl ?_) | (refine ACalls.ofJi (hs) rfl ?_)) | (refine qcall_start ?_; first | (refine qcallFi (impl_LedgerFault l h1 h2) rfl ?_ ?_; (focus ((first | exact rfl | (simp [pureV, flatV, srcB_eq, signE_val, signE_sz, strE_sz, ledgerE_val, ledgerE_sz, ledgerResultE_val, intsResultE_val, intsResultE_sz]; done))))) | (refine qcallFi (hs) rfl ?_ ?_; (focus ((first | exact rfl | (simp [pureV, flatV, srcB_eq, signE_val, signE_sz, strE_sz, ledgerE_val, ledgerE_sz, ledgerResultE_val, intsResultE_val, intsResultE_sz]; done)))))) | (refine KV.run _ ?_) | (refine KQ.run _ ?_) | (refine KT.run _ ?_) | (refine AWp.seqH fun KC => ?_) | (refine AWp.block ?_) | (refine AWp.region ?_) | (refine mops_step0 rfl rfl fun KC => ?_) | (refine mops_step1 rfl fun KC => ?_) | (refine mops_step2 rfl fun KC => ?_) | (refine AWp.ret ?_) | (refine AWp.skip ?_) | (refine AWp.exit ?_) | (refine aops_callH rfl fun kC => ?_) | (refine qops_callH rfl fun kC => ?_) | (refine AWp.condB ?_) | (simp only [bse, wk, tys, storeH_ptr, Nat.reduceEqDiff, ↓reduceIte, reduceCtorEq, Nat.reduceAdd, Nat.reduceLeDiff, Int.reduceBEq, Int.reduceLT, Int.reduceLE, Int.reduceEq, ne_eq, not_false_eq_true, Nat.reduceMul, srcB_eq, signE_val, signE_sz, strE_sz, ledgerE_val, ledgerE_sz, ledgerResultE_val, intsResultE_val, intsResultE_sz, *]) | (refine condK_bool (fun hb => ?_) (fun hb => ?_) <;> ((try simp only [Bool.not_eq_true', Bool.not_eq_false'] at hb) <;> (try (have hbe := of_decide_eq_true hb)) <;> (try (have hbe := eq_of_beq hb)))) | (refine aops_partB ?_) | (refine qops_partB ?_))
  | false =>
    refine PCalls.flat rfl ?_; refine ACalls.enter (n := 16) (rs := [.tmp 6]) Try.func21 rfl rfl rfl (by kernel_rfl) (by kernel_rfl) (by kernel_rfl) (Nat.le_of_ble_eq_true rfl) ?_
    repeat' (first | (refine ACalls.start ?_; first | (refine ACalls.ofJi (impl_LedgerFault l h1 h2) rfl ?_)) | (refine qcall_start ?_; first | (refine qcallFi (impl_LedgerFault l h1 h2) rfl ?_ ?_; (focus ((first | exact rfl | (simp [pureV, flatV, srcB_eq, signE_val, signE_sz, strE_sz, ledgerE_val, ledgerE_sz, ledgerResultE_val, intsResultE_val, intsResultE_sz]; done)))))) | (refine KV.run _ ?_) | (refine KQ.run _ ?_) | (refine KT.run _ ?_) | (refine AWp.seqH fun KC => ?_) | (refine AWp.block ?_) | (refine AWp.region ?_) | (refine mops_step0 rfl rfl fun KC => ?_) | (refine mops_step1 rfl fun KC => ?_) | (refine mops_step2 rfl fun KC => ?_) | (refine AWp.ret ?_) | (refine AWp.skip ?_) | (refine AWp.exit ?_) | (refine aops_callH rfl fun kC => ?_) | (refine qops_callH rfl fun kC => ?_) | (refine AWp.condB ?_) | (simp only [bse, wk, tys, storeH_ptr, Nat.reduceEqDiff, ↓reduceIte, reduceCtorEq, Nat.reduceAdd, Nat.reduceLeDiff, Int.reduceBEq, Int.reduceLT, Int.reduceLE, Int.reduceEq, ne_eq, not_false_eq_true, Nat.reduceMul, srcB_eq, signE_val, signE_sz, strE_sz, ledgerE_val, ledgerE_sz, ledgerResultE_val, intsResultE_val, intsResultE_sz, *]) | (refine condK_bool (fun hb => ?_) (fun hb => ?_) <;> ((try simp only [Bool.not_eq_true', Bool.not_eq_false'] at hb) <;> (try (have hbe := of_decide_eq_true hb)) <;> (try (have hbe := eq_of_beq hb)))) | (refine aops_partB ?_) | (refine qops_partB ?_))
theorem sgIn_app (gs : List TSign) (a b key id : Int) : sgIn (gs ++ [⟨key, id⟩]) a b = (sgIn gs a b || (a == key && b == id)) := by
  unfold sgIn
  simp
theorem sgIn_imp {gs : List TSign} {key id a b : Int} (h : sgIn gs key id = true) : sgIn gs a b = (sgIn gs a b || (a == key && b == id)) := by
  cases hc : (a == key && b == id) with
  | false => simp
  | true =>
    simp at hc
    rw [hc.1, hc.2, h]
    rfl
theorem signs_any {gs : List TSign} {key id : Int} (h : sgIn gs key id = true) : ((sgK gs id).any fun x => x == key) = true := by
  unfold sgIn at h
  obtain ⟨y, hy, hk⟩ := List.any_eq_true.1 h
  simp at hk
  refine List.any_eq_true.2 ⟨y.key, ?_, by simp [hk.1]⟩
  unfold sgK
  exact List.mem_map.2 ⟨y, List.mem_filter.2 ⟨hy, by simp [hk.2]⟩, rfl⟩
theorem nl_signs2 {l : TLedger} {s : TSign} (h : nLedger l ≤ 30000) : nLedger ⟨l.texts, l.signs ++ [s]⟩ ≤ 31000 := by
  unfold nLedger at h ⊢
  simp
  omega
theorem sign_err {l : TLedger} {key id : Int} (h : ¬ (signIdF l key id).code = 0) : hasF l key id = false := by
  unfold hasF
  cases hf : (ledgerFault l == 0) with
  | false => rfl
  | true =>
    cases hg : sgIn l.signs key id with
    | false => rfl
    | true =>
      exfalso
      obtain ⟨_, _, h3, _⟩ := ledger_zero.1 (eq_of_beq hf)
      have hg2 := hg
      unfold sgIn at hg2
      obtain ⟨y, hy, hk⟩ := List.any_eq_true.1 hg2
      simp at hk
      obtain ⟨p, hp⟩ := (scanK_zero _ _ _ _ h3).2 y hy
      obtain ⟨hp1, hp2, _⟩ := sgF_zero.1 hp
      rw [← hk.1] at hp1
      rw [← hk.2] at hp2
      apply h
      unfold signIdF
      simp [hf, hp1, hp2, hg]
theorem sign_ok {l : TLedger} {key id : Int} (h : (signIdF l key id).code = 0) : ∃ l' : TLedger, signIdF l key id = ⟨0, id, l'⟩ ∧ signIdF l' key id = ⟨0, id, l'⟩ ∧ ledgerFault l = 0 ∧ ledgerFault l' = 0 ∧ nLedger l' ≤ 31000 ∧ signsOfF l' id = ⟨0, sgK l'.signs id⟩ ∧
    (∀ a b, hasF l' a b = (hasF l a b || (a == key && b == id))) ∧ ((sgK l'.signs id).any fun x => x == key) = true := by
  cases hf : (ledgerFault l == 0) with
  | false =>
    unfold signIdF at h
    simp [hf] at h
    exact absurd h (by simpa using hf)
  | true =>
    have hf0 := eq_of_beq hf
    obtain ⟨l1, l2, l3, l4⟩ := ledger_zero.1 hf0
    have hb := ledger_bound hf0
    cases hk : inB key 1 999
    · unfold signIdF at h; simp [hf, hk] at h
    cases hi : inB id 1 l.texts.length
    · unfold signIdF at h; simp [hf, hk, hi] at h
    cases hg : sgIn l.signs key id with
    | true =>
      have e : signIdF l key id = ⟨0, id, l⟩ := by unfold signIdF; simp [hf, hk, hi, hg]
      refine ⟨l, e, e, hf0, hf0, by omega, by unfold signsOfF; simp [hf, hi], fun a b => ?_, signs_any hg⟩
      unfold hasF
      rw [hf]
      simp only [Bool.true_and]
      exact sgIn_imp hg
    | false =>
      by_cases h6 : 120 ≤ l.signs.length
      · unfold signIdF at h; simp [hf, hk, hi, hg, h6] at h
      have e : signIdF l key id = ⟨0, id, ⟨l.texts, l.signs ++ [⟨key, id⟩]⟩⟩ := by unfold signIdF; simp [hf, hk, hi, hg, h6]
      have hf' : ledgerFault ⟨l.texts, l.signs ++ [⟨key, id⟩]⟩ = 0 := ledger_zero.2 ⟨l1, by simp; omega, scanK_app _ _ _ _ l3 (by
        rw [List.nil_append]
        exact sgF_zero.2 ⟨hk, hi, hg⟩), l4⟩
      have hfb : (ledgerFault ⟨l.texts, l.signs ++ [⟨key, id⟩]⟩ == 0) = true := by rw [hf']; rfl
      have hg' : sgIn (l.signs ++ [⟨key, id⟩]) key id = true := by rw [sgIn_app]; simp
      refine ⟨_, e, by unfold signIdF; simp [hfb, hk, hi, hg'], hf0, hf', nl_signs2 (by omega), by unfold signsOfF; simp [hfb, hi], fun a b => ?_, signs_any hg'⟩
      unfold hasF
      rw [hf, hfb]
      simp only [Bool.true_and]
      exact sgIn_app _ _ _ _ _
end Go.BM
