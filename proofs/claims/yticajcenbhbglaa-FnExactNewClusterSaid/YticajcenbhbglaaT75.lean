/- Marks: voters that have chosen nothing, lists that hold nothing. -/
import Derived.Test.YticajcenbhbglaaU1
import Derived.Test.YticajcenbhbglaaU2
import Derived.Test.YticajcenbhbglaaC39
set_option linter.unusedVariables false
set_option linter.unusedSimpArgs false
set_option maxRecDepth 100000
set_option maxHeartbeats 4000000
namespace Go.BM
open Go.Proofs Go.RowKit
attribute [local irreducible] ACalls AWp aops qops optK optP cK gateA condK mops qcallK PCalls loadV fldV idxV lenV slV storeH binS
/-- An empty slice, as it comes back: nil, or one of a block. -/
def EmC (H : AH) (c : Value) : Prop := ∃ a ver, c = .slice a 0 ver ∧ ((a = none ∧ ver = 0) ∨ ∃ r sp blk, a = some ⟨r, 0, sp⟩ ∧ H[r]? = some blk ∧ blk.ver = ver)
theorem EmC.bor {H : AH} {c : Value} (h : EmC H c) : Bor H c (isl 0 []) := by
  obtain ⟨a, ver, rfl, ⟨rfl, rfl⟩ | ⟨r, sp, blk, rfl, h1, h2⟩⟩ := h
  · exact .nil
  · exact .emp r 0 sp ver blk h1 h2
theorem EmC.set {H : AH} {c : Value} (h : EmC H c) {r : Nat} {b b' : Blk} (hb : H[r]? = some b) (hv : b'.ver = b.ver) : EmC (H.set r b') c := by
  obtain ⟨a, ver, rfl, ⟨rfl, rfl⟩ | ⟨q, sp, blk, rfl, h1, h2⟩⟩ := h
  · exact ⟨_, _, rfl, .inl ⟨rfl, rfl⟩⟩
  · refine ⟨_, _, rfl, .inr ?_⟩
    by_cases e : q = r
    · subst e
      rw [hb] at h1
      cases h1
      exact ⟨q, sp, b', rfl, List.getElem?_set_self (lt_of_some hb), hv.trans h2⟩
    · exact ⟨q, sp, blk, rfl, by rw [List.getElem?_set_ne (Ne.symm e)]; exact h1, h2⟩
theorem OwnL.emI {x : Bool} {H : AH} {c v : Value} {S : List Nat} (h : OwnL x H [c] [v] S) (hv : v = isl 0 []) : EmC H c := by
  subst hv
  have h' : OwnL x H [c] [islE intE []] S := h
  rcases h'.slI with ⟨rfl, _⟩ | ⟨r, sp, blk, rfl, hr, _⟩ | ⟨r, sp, blk, S1, rfl, hr, _⟩
  · exact ⟨_, _, rfl, .inl ⟨rfl, rfl⟩⟩
  · exact ⟨_, _, rfl, .inr ⟨r, sp, blk, rfl, hr, rfl⟩⟩
  · exact ⟨_, _, rfl, .inr ⟨r, sp, blk, rfl, hr, rfl⟩⟩
/-- Voters' cells with marks in the place of key and last. -/
def mv (k : Int) : List Value → List Value
  | a :: b :: c :: l => .int .i64 k :: .int .i64 (k + 1) :: c :: mv (k + 2) l
  | l => l
def mvT (k : Int) : Nat → List Value
  | 0 => []
  | n + 1 => .int .i64 k :: .int .i64 (k + 1) :: isl 0 [] :: mvT (k + 2) n
theorem own_mv {fl : Bool} {H : AH} : ∀ (xs : List TVoter) (hp : ∀ v ∈ xs, v.choices = []) (cs : List Value) (S : List Nat) (k : Int), OwnL fl H cs (voterE.flat xs) S →
    cs.length = xs.length * 3 ∧ OwnL fl H (mv k cs) (mvT k xs.length) S ∧ ∀ j, j < xs.length → ∃ c, cs[j * 3 + 2]? = some c ∧ EmC H c
  | [], hp, cs, S, k, h => by
    obtain ⟨rfl, rfl⟩ := OwnL.nilI h
    exact ⟨rfl, .nil, fun j hj => by simp at hj⟩
  | x :: xs, hp, cs, S, k, h => by
    have hx := hp x (by simp)
    have h' : OwnL fl H cs (.int .i64 x.key :: .int .i64 x.last :: isl 0 [] :: voterE.flat xs) S := by
      have e : voterE.flat (x :: xs) = .int .i64 x.key :: .int .i64 x.last :: islE choiceE x.choices :: voterE.flat xs := rfl
      rw [e, hx] at h
      exact h
    obtain ⟨m1, rfl, h1⟩ := OwnL.flatI h' rfl
    obtain ⟨m2, rfl, h2⟩ := OwnL.flatI h1 rfl
    obtain ⟨c, m3, S1, S2, rfl, rfl, hc, h3⟩ := OwnL.consI h2
    obtain ⟨i1, i2, i3⟩ := own_mv xs (fun v hv => hp v (by simp [hv])) m3 S2 (k + 2) h3
    refine ⟨by simp [i1]; omega, .flat rfl (.flat rfl (OwnL.consL hc i2)), fun j hj => ?_⟩
    cases j with
    | zero => exact ⟨c, rfl, hc.emI rfl⟩
    | succ j =>
      obtain ⟨d, hd, he⟩ := i3 j (by simpa using hj)
      exact ⟨d, by rw [show (j + 1) * 3 + 2 = (j * 3 + 2) + 3 by omega]; exact hd, he⟩
theorem mv_len : ∀ (n : Nat) (k : Int) (cs : List Value), cs.length = n * 3 → (mv k cs).length = n * 3
  | 0, k, cs, h => by
    have : cs = [] := List.eq_nil_of_length_eq_zero (by omega)
    subst this
    rfl
  | n + 1, k, [], h => by simp at h
  | n + 1, k, [_], h => by simp at h; omega
  | n + 1, k, [_, _], h => by simp at h; omega
  | n + 1, k, a :: b :: c :: l, h => by
    have := mv_len n (k + 2) l (by simp at h; omega)
    simp [mv, this]
    omega
theorem mv_step : ∀ (n j : Nat) (k : Int) (cs : List Value) (c : Value), cs.length = n * 3 → j < n → cs[j * 3 + 2]? = some c →
    mv k (cs.take ((j + 1) * 3)) = mv k (cs.take (j * 3)) ++ [.int .i64 (k + (j * 2 : Nat)), .int .i64 (k + (j * 2 + 1 : Nat)), c]
  | 0, j, k, cs, c, h, hj, hc => by omega
  | n + 1, j, k, [], c, h, hj, hc => by simp at h
  | n + 1, j, k, [_], c, h, hj, hc => by simp at h; omega
  | n + 1, j, k, [_, _], c, h, hj, hc => by simp at h; omega
  | n + 1, 0, k, a :: b :: d :: l, c, h, hj, hc => by
    have e : d = c := by simpa using hc
    subst e
    have e2 : l.take ((0 : Nat) * 3) = [] := by simp
    show mv k (a :: b :: d :: l.take 0) = mv k [] ++ _
    simp [mv]
  | n + 1, j + 1, k, a :: b :: d :: l, c, h, hj, hc => by
    have ih := mv_step n j (k + 2) l c (by simp at h; omega) (by omega) (by rw [show (j + 1) * 3 + 2 = (j * 3 + 2) + 3 by omega] at hc; exact hc)
    have e1 : (a :: b :: d :: l).take ((j + 1 + 1) * 3) = a :: b :: d :: l.take ((j + 1) * 3) := by rw [show (j + 1 + 1) * 3 = (j + 1) * 3 + 3 by omega]; rfl
    have e2 : (a :: b :: d :: l).take ((j + 1) * 3) = a :: b :: d :: l.take (j * 3) := by rw [show (j + 1) * 3 = j * 3 + 3 by omega]; rfl
    rw [e1, e2]
    simp only [mv, ih, List.cons_append]
    rw [show k + 2 + ((j * 2 : Nat) : Int) = k + (((j + 1) * 2 : Nat) : Int) by omega, show k + 2 + ((j * 2 + 1 : Nat) : Int) = k + (((j + 1) * 2 + 1 : Nat) : Int) by omega]
theorem mvT_get : ∀ (n j : Nat) (k : Int), j < n → (mvT k n)[j * 3]? = some (.int .i64 (k + (j * 2 : Nat))) ∧ (mvT k n)[j * 3 + 1]? = some (.int .i64 (k + (j * 2 + 1 : Nat))) ∧ (mvT k n)[j * 3 + 2]? = some (isl 0 [])
  | 0, j, k, h => by omega
  | n + 1, 0, k, h => by simp [mvT]
  | n + 1, j + 1, k, h => by
    obtain ⟨h1, h2, h3⟩ := mvT_get n j (k + 2) (by omega)
    rw [show (j + 1) * 3 = j * 3 + 3 by omega, show k + (((j + 1) * 2 : Nat) : Int) = k + 2 + ((j * 2 : Nat) : Int) by omega, show k + (((j + 1) * 2 + 1 : Nat) : Int) = k + 2 + ((j * 2 + 1 : Nat) : Int) by omega]
    exact ⟨h1, h2, h3⟩
theorem laws_heldChoiceS0 (k : Int) (hk : 0 ≤ k) (hk2 : k ≤ 1000000000000000) : PCalls Try.prog 76 [isl 0 [], .int .i64 k] (.int .i64 k) := by
  have := laws_heldChoiceS 0 k hk hk2 (by omega)
  simpa [marksC] using this
theorem laws_heldInt64S0 (k : Int) (hk : 0 ≤ k) (hk2 : k ≤ 1000000000000000) : PCalls Try.prog 52 [isl 0 [], .int .i64 k] (.int .i64 k) := by
  have := laws_heldInt64S 0 k hk hk2 (by omega)
  simpa [marksC] using this
theorem laws_markVoterS (H : AH) (r n ver el sz : Nat) (cs : List Value) (sp : Option Nat) (k : Int) (hb : H[r]? = some ⟨el, sz, cs, ver, true⟩) (hl : cs.length = n * 3) (hem : ∀ j, j < n → ∃ c, cs[j * 3 + 2]? = some c ∧ EmC H c) (hk : 0 ≤ k) (hk2 : k ≤ 1000000000000000) (hn : n ≤ 1048576) :
    ACalls Try.prog 0 48 [.slice (some ⟨r, 0, sp⟩) n ver, .int .i64 k] H fun d H' => d = .int .i64 (k + (n * 2 : Nat)) ∧ H' = H.set r ⟨el, sz, mv k cs, ver, true⟩ := by
  have hr := lt_of_some hb
  refine ACalls.enter (n := 34) (rs := [.tmp 4]) Try.func48 rfl rfl rfl (by kernel_rfl) (by kernel_rfl) (by kernel_rfl) (Nat.le_of_ble_eq_true rfl) ?_
  repeat' (first | (refine KV.run _ ?_) | (refine KQ.run _ ?_) | (refine KT.run _ ?_) | (refine AWp.seqH fun KC => ?_) | (refine AWp.block ?_) | (refine AWp.region ?_) | (refine mops_step0 rfl rfl fun KC => ?_) | (refine mops_step1 rfl fun KC => ?_) | (refine mops_step2 rfl fun KC => ?_) | (refine AWp.ret ?_) | (refine AWp.skip ?_) | (refine AWp.exit ?_) | (refine aops_callH rfl fun kC => ?_) | (refine qops_callH rfl fun kC => ?_) | (refine AWp.condB ?_) | (simp only [bse, wk, tys, storeH_ptr, Nat.reduceEqDiff, ↓reduceIte, reduceCtorEq, Nat.reduceAdd, Nat.reduceLeDiff, Int.reduceBEq, Int.reduceLT, Int.reduceLE, Int.reduceEq, ne_eq, not_false_eq_true, Nat.reduceMul, voterE_val, voterE_sz, sliceE_val, sliceE_sz, *]) | (refine condK_bool (fun hb => ?_) (fun hb => ?_) <;> ((try simp only [Bool.not_eq_true', Bool.not_eq_false'] at hb) <;> (try (have hbe := of_decide_eq_true hb)) <;> (try (have hbe := eq_of_beq hb)))) | (refine aops_partB ?_) | (refine qops_partB ?_))
  refine AWp.loopH [6, 7, 8, 9, 12, 13, 14, 15, 16, 17, 18, 1, 19, 20, 21, 22, 23, 24, 25, 26, 27, 28, 29, 30, 31, 32, 10, 11, 5] (fun m e' H' => ∃ j : Nat, j ≤ n ∧ m = n - j ∧ e' 5 = .int .i64 j ∧ e' 1 = .int .i64 (k + (j * 2 : Nat)) ∧ H' = H.set r ⟨el, sz, mv k (cs.take (j * 3)) ++ cs.drop (j * 3), ver, true⟩) n ⟨0, by omega, by omega, rfl, by simp [put, env0], by simp [mv]; exact (set_same hb).symm⟩ ?_
  rintro m e' H' hA ⟨j, hj, rfl, h5, h1, rfl⟩ hJ
  have a0 := hA 0 rfl; have a4 := hA 4 rfl; try simp only [bse, wk, tys, storeH_ptr, Nat.reduceEqDiff, ↓reduceIte, reduceCtorEq, Nat.reduceAdd, Nat.reduceLeDiff, Int.reduceBEq, Int.reduceLT, Int.reduceLE, Int.reduceEq, ne_eq, not_false_eq_true, Nat.reduceMul] at a0 a4; clear hA
  by_cases hlt : j < n
  · have hlt' : (j : Int) < (n : Int) := by omega
    obtain ⟨c, hcj, hce⟩ := hem j hlt
    obtain ⟨a, cv, rfl, -⟩ := id hce
    have hst := mv_step n j k cs _ hl hlt hcj
    have hml : (mv k (cs.take (j * 3))).length = j * 3 := mv_len j k _ (by rw [List.length_take]; omega)
    obtain ⟨a0, a1, hdr⟩ : ∃ a0 a1, cs.drop (j * 3) = a0 :: a1 :: .slice a 0 cv :: cs.drop ((j + 1) * 3) := by
      have h0 : j * 3 < cs.length := by omega
      have h1 : j * 3 + 1 < cs.length := by omega
      have h2 : j * 3 + 2 < cs.length := by omega
      refine ⟨cs[j * 3], cs[j * 3 + 1], ?_⟩
      rw [List.drop_eq_getElem_cons h0, List.drop_eq_getElem_cons h1, List.drop_eq_getElem_cons h2]
      rw [List.getElem?_eq_getElem h2] at hcj
      injection hcj with hcj
      rw [hcj, show (j + 1) * 3 = j * 3 + 2 + 1 by omega]
    generalize hM : mv k (cs.take (j * 3)) = M at hst hml
    have hg0 : (H.set r ⟨el, sz, M ++ cs.drop (j * 3), ver, true⟩)[r]? = some ⟨el, sz, M ++ [a0] ++ (a1 :: .slice a 0 cv :: cs.drop ((j + 1) * 3)), ver, true⟩ := by rw [List.getElem?_set_self hr, hdr]; simp
    have hs0 := storeH_at (P := Try.prog) (B := 0) (T := 2) (v := .int .i64 (k + ((j * 2 : Nat) : Int))) hg0 (Nat.zero_le _) lay2 hml.symm rfl rfl rfl
    rw [List.set_set] at hs0
    have hg1 : (H.set r ⟨el, sz, M ++ cellsV (.int .i64 (k + ((j * 2 : Nat) : Int))) ++ (a1 :: .slice a 0 cv :: cs.drop ((j + 1) * 3)), ver, true⟩)[r]? = some ⟨el, sz, (M ++ [.int .i64 (k + ((j * 2 : Nat) : Int))]) ++ [a1] ++ (.slice a 0 cv :: cs.drop ((j + 1) * 3)), ver, true⟩ := by rw [List.getElem?_set_self hr]; simp [cellsV]
    have hs1 := storeH_at (P := Try.prog) (B := 0) (T := 2) (off := j * 3 + 1) (v := .int .i64 (k + ((j * 2 + 1 : Nat) : Int))) hg1 (Nat.zero_le _) lay2 (by simp; omega) rfl rfl rfl
    rw [List.set_set] at hs1
    have hw0 : IntKind.i64.wrap (k + ((j * 2 : Nat) : Int) + 1) = k + ((j * 2 + 1 : Nat) : Int) := by rw [wr] <;> omega
    have hw1 : IntKind.i64.wrap (k + ((j * 2 + 1 : Nat) : Int) + 1) = k + (((j + 1) * 2 : Nat) : Int) := by rw [wr] <;> omega
    have hw := wr_succ (k := j) (by omega)
    have hend : H.set r ⟨el, sz, (M ++ [.int .i64 (k + ((j * 2 : Nat) : Int))]) ++ cellsV (.int .i64 (k + ((j * 2 + 1 : Nat) : Int))) ++ (.slice a 0 cv :: cs.drop ((j + 1) * 3)), ver, true⟩ = H.set r ⟨el, sz, mv k (cs.take ((j + 1) * 3)) ++ cs.drop ((j + 1) * 3), ver, true⟩ := by rw [hst]; simp [cellsV]
    rw [hend] at hs1
    clear hend hg1
    obtain ⟨C1, hC1⟩ : ∃ C1, C1 = M ++ cellsV (.int .i64 (k + ((j * 2 : Nat) : Int))) ++ (a1 :: .slice a 0 cv :: cs.drop ((j + 1) * 3)) := ⟨_, rfl⟩
    rw [← hC1] at hs0 hs1
    clear hC1
    have hC2l : (mv k (cs.take ((j + 1) * 3)) ++ cs.drop ((j + 1) * 3))[j * 3 + 2]? = some (.slice a 0 cv) := by
      rw [hst, List.getElem?_append_left (by simp; omega), List.getElem?_append_right (by omega)]
      simp [hml, show j * 3 + 2 - j * 3 = 2 by omega]
    obtain ⟨C2, hC2⟩ : ∃ C2, C2 = mv k (cs.take ((j + 1) * 3)) ++ cs.drop ((j + 1) * 3) := ⟨_, rfl⟩
    rw [← hC2] at hs1 hC2l
    have hgE : (H.set r ⟨el, sz, C2, ver, true⟩)[r]? = some ⟨el, sz, C2, ver, true⟩ := List.getElem?_set_self hr
    have hl2 : loadV Try.prog (H.set r ⟨el, sz, C2, ver, true⟩) 51 (.pointer (some ⟨r, j * 3 + 2, some ver⟩)) = some (.slice a 0 cv) := by
      rw [loadV_ptr, show lay Try.prog 51 = some (false, 1) from lay51]
      simp only [Option.bind_some, getB_eq, hgE, and_self, if_true, getVar_f]
      exact hC2l
    have hpk : ACalls Try.prog 0 75 [.slice a 0 cv, .int .i64 (k + (((j + 1) * 2 : Nat) : Int))] (H.set r ⟨el, sz, C2, ver, true⟩) fun d H3 => d = .int .i64 (k + (((j + 1) * 2 : Nat) : Int)) ∧ H.set r ⟨el, sz, C2, ver, true⟩ = H3 :=
      ACalls.ofP (laws_markChoiceS0 _) (.cons (hce.set hb (b' := ⟨el, sz, C2, ver, true⟩) rfl).bor (.cons (.same _ (.flat _ rfl)) .nil)) rfl ⟨rfl, rfl⟩
    have hgs := List.getElem?_set_self (a := (⟨el, sz, M ++ cs.drop (j * 3), ver, true⟩ : Blk)) hr
    have hgs1 := List.getElem?_set_self (a := (⟨el, sz, C1, ver, true⟩ : Blk)) hr
    clear hC2l
    have hC2H : Hid (C2 = mv k (cs.take ((j + 1) * 3)) ++ cs.drop ((j + 1) * 3)) := hC2
    clear hC2
    try rw [hM]
    clear hst hml hdr hg0 hem hcj hce hM
    repeat' (first | (refine ACalls.start ?_; first | (refine ACalls.get (hpk) (by first | exact Nat.le_refl _ | exact Nat.zero_le _ | (simp only [List.length_append, List.length_cons, List.length_nil]; omega) | (simp only [List.length_set]; omega) | omega) (by first | exact Nat.le_refl _ | exact Nat.zero_le _ | (simp only [List.length_append, List.length_cons, List.length_nil]; omega) | (simp only [List.length_set]; omega) | omega) ?_; rintro _ _ ⟨rfl, rfl⟩)) | (refine KV.run _ ?_) | (refine KQ.run _ ?_) | (refine KT.run _ ?_) | (refine AWp.seqH fun KC => ?_) | (refine AWp.block ?_) | (refine AWp.region ?_) | (refine mops_step0 rfl rfl fun KC => ?_) | (refine mops_step1 rfl fun KC => ?_) | (refine mops_step2 rfl fun KC => ?_) | (refine AWp.ret ?_) | (refine AWp.skip ?_) | (refine AWp.exit ?_) | (refine aops_callH rfl fun kC => ?_) | (refine qops_callH rfl fun kC => ?_) | (refine AWp.condB ?_) | (simp only [bse, wk, tys, Nat.reduceEqDiff, ↓reduceIte, reduceCtorEq, Nat.reduceAdd, Nat.reduceLeDiff, Int.reduceBEq, Int.reduceLT, Int.reduceLE, Int.reduceEq, ne_eq, not_false_eq_true, Nat.reduceMul, voterE_val, voterE_sz, sliceE_val, sliceE_sz, *]) | (refine condK_bool (fun hb => ?_) (fun hb => ?_) <;> ((try simp only [Bool.not_eq_true', Bool.not_eq_false'] at hb) <;> (try (have hbe := of_decide_eq_true hb)) <;> (try (have hbe := eq_of_beq hb)))) | (refine aops_partB ?_) | (refine qops_partB ?_))
    exact hJ.out _ _ ⟨n - (j + 1), by omega, j + 1, by omega, rfl, rfl, by simp only [put, if_true, if_false, reduceCtorEq, Nat.reduceEqDiff], by rw [hC2H.out]⟩ (by repeat (first | exact Agree.refl _ _ | assumption | refine Agree.put ?_ rfl _))
  · have hlt' : ¬ (j : Int) < (n : Int) := by omega
    have : j = n := by omega
    subst this
    have hd : cs.drop (j * 3) = [] := List.drop_eq_nil_of_le (by omega)
    have ht : cs.take (j * 3) = cs := List.take_of_length_le (by omega)
    rw [hd, ht, List.append_nil]
    have hg : (H.set r ⟨el, sz, mv k cs, ver, true⟩)[r]? = some ⟨el, sz, mv k cs, ver, true⟩ := List.getElem?_set_self hr
    clear hem hd ht hl
    repeat' (first | (refine KV.run _ ?_) | (refine KQ.run _ ?_) | (refine KT.run _ ?_) | (refine AWp.seqH fun KC => ?_) | (refine AWp.block ?_) | (refine AWp.region ?_) | (refine mops_step0 rfl rfl fun KC => ?_) | (refine mops_step1 rfl fun KC => ?_) | (refine mops_step2 rfl fun KC => ?_) | (refine AWp.ret ?_) | (refine AWp.skip ?_) | (refine AWp.exit ?_) | (refine aops_callH rfl fun kC => ?_) | (refine qops_callH rfl fun kC => ?_) | (refine AWp.condB ?_) | (simp only [bse, wk, tys, storeH_ptr, Nat.reduceEqDiff, ↓reduceIte, reduceCtorEq, Nat.reduceAdd, Nat.reduceLeDiff, Int.reduceBEq, Int.reduceLT, Int.reduceLE, Int.reduceEq, ne_eq, not_false_eq_true, Nat.reduceMul, voterE_val, voterE_sz, sliceE_val, sliceE_sz, *]) | (refine condK_bool (fun hb => ?_) (fun hb => ?_) <;> ((try simp only [Bool.not_eq_true', Bool.not_eq_false'] at hb) <;> (try (have hbe := of_decide_eq_true hb)) <;> (try (have hbe := eq_of_beq hb)))) | (refine aops_partB ?_) | (refine qops_partB ?_))
theorem laws_heldVoterS (n : Nat) (k : Int) (hk : 0 ≤ k) (hk2 : k + (n * 2 : Nat) ≤ 1000000000000000) (hn : n ≤ 1048576) :
    PCalls Try.prog 54 [isl n (mvT k n), .int .i64 k] (.int .i64 (k + (n * 2 : Nat))) := by
  have hlen := lenV_isl (P := Try.prog) (H := []) (n := n) (cs := mvT k n) elZ28
  refine PCalls.flat rfl ?_; refine ACalls.enter (n := 40) (rs := [.tmp 4]) Try.func54 rfl rfl rfl (by kernel_rfl) (by kernel_rfl) (by kernel_rfl) (Nat.le_of_ble_eq_true rfl) ?_
  repeat' (first | (refine KV.run _ ?_) | (refine KQ.run _ ?_) | (refine KT.run _ ?_) | (refine AWp.seqH fun KC => ?_) | (refine AWp.block ?_) | (refine AWp.region ?_) | (refine mops_step0 rfl rfl fun KC => ?_) | (refine mops_step1 rfl fun KC => ?_) | (refine mops_step2 rfl fun KC => ?_) | (refine AWp.ret ?_) | (refine AWp.skip ?_) | (refine AWp.exit ?_) | (refine aops_callH rfl fun kC => ?_) | (refine qops_callH rfl fun kC => ?_) | (refine AWp.condB ?_) | (simp only [bse, wk, tys, storeH_ptr, Nat.reduceEqDiff, ↓reduceIte, reduceCtorEq, Nat.reduceAdd, Nat.reduceLeDiff, Int.reduceBEq, Int.reduceLT, Int.reduceLE, Int.reduceEq, ne_eq, not_false_eq_true, Nat.reduceMul, voterE_val, voterE_sz, sliceE_val, sliceE_sz, *]) | (refine condK_bool (fun hb => ?_) (fun hb => ?_) <;> ((try simp only [Bool.not_eq_true', Bool.not_eq_false'] at hb) <;> (try (have hbe := of_decide_eq_true hb)) <;> (try (have hbe := eq_of_beq hb)))) | (refine aops_partB ?_) | (refine qops_partB ?_))
  refine AWp.loopH [6, 7, 8, 9, 12, 13, 14, 15, 16, 17, 18, 4, 19, 20, 1, 21, 22, 23, 24, 25, 26, 27, 28, 29, 30, 31, 32, 33, 34, 35, 36, 37, 38, 10, 11, 5] (fun m e' H' => ∃ j : Nat, j ≤ n ∧ m = n - j ∧ e' 5 = .int .i64 j ∧ e' 1 = .int .i64 (k + (j * 2 : Nat)) ∧ H' = []) n ⟨0, by omega, by omega, rfl, by simp [put, env0], rfl⟩ ?_
  rintro m e' H' hA ⟨j, hj, rfl, h5, h1, rfl⟩ hJ
  have a0 := hA 0 rfl; try simp only [bse, wk, tys, storeH_ptr, Nat.reduceEqDiff, ↓reduceIte, reduceCtorEq, Nat.reduceAdd, Nat.reduceLeDiff, Int.reduceBEq, Int.reduceLT, Int.reduceLE, Int.reduceEq, ne_eq, not_false_eq_true, Nat.reduceMul] at a0; clear hA
  by_cases hlt : j < n
  · have hlt' : (j : Int) < (n : Int) := by omega
    have hi := idxV_isl (P := Try.prog) (H := []) (n := n) (kd := .i64) (cs := mvT k n) elZ28 hlt
    obtain ⟨hv0, hv1, hv2⟩ := mvT_get n j k hlt
    have hl0 := load_ip1 (P := Try.prog) (H := []) (T := 2) (p := j * 3) lay2 hv0
    have hw0 : IntKind.i64.wrap (k + ((j * 2 : Nat) : Int) + 1) = k + ((j * 2 + 1 : Nat) : Int) := by rw [wr] <;> omega
    have hf0 := fld_ip (P := Try.prog) (H := []) (p := j * 3) (cs := mvT k n) fld53_0
    have hl1 := load_ip1 (P := Try.prog) (H := []) (T := 2) (p := j * 3 + 1) lay2 hv1
    have hw1 : IntKind.i64.wrap (k + ((j * 2 + 1 : Nat) : Int) + 1) = k + (((j + 1) * 2 : Nat) : Int) := by rw [wr] <;> omega
    have hf1 := fld_ip (P := Try.prog) (H := []) (p := j * 3) (cs := mvT k n) fld53_1
    have hl2 := load_ip1 (P := Try.prog) (H := []) (T := 51) (p := j * 3 + 2) lay51 hv2
    have hf2 := fld_ip (P := Try.prog) (H := []) (p := j * 3) (cs := mvT k n) fld53_2
    have hw := wr_succ (k := j) (by omega)
    have hh := laws_heldChoiceS0 (k + (((j + 1) * 2 : Nat) : Int)) (by omega) (by omega)
    have hq : ¬ k + (((j + 1) * 2 : Nat) : Int) < 0 := by omega
    haveI im0 : ImC (isl 0 []) := ⟨Im.isl Im.nilL⟩
    clear hv0 hv1 hv2
    repeat' (first | (refine ACalls.start ?_; first | (refine ACalls.ofJi (hh) rfl ?_)) | (refine qcall_start ?_; first | (refine qcallFi (hh) rfl ?_ ?_; (focus ((first | exact rfl | (simp [pureV, flatV, voterE_val, voterE_sz, sliceE_val, sliceE_sz]; done)))))) | (refine KV.run _ ?_) | (refine KQ.run _ ?_) | (refine KT.run _ ?_) | (refine AWp.seqH fun KC => ?_) | (refine AWp.block ?_) | (refine AWp.region ?_) | (refine mops_step0 rfl rfl fun KC => ?_) | (refine mops_step1 rfl fun KC => ?_) | (refine mops_step2 rfl fun KC => ?_) | (refine AWp.ret ?_) | (refine AWp.skip ?_) | (refine AWp.exit ?_) | (refine aops_callH rfl fun kC => ?_) | (refine qops_callH rfl fun kC => ?_) | (refine AWp.condB ?_) | (simp only [bse, wk, tys, storeH_ptr, Nat.reduceEqDiff, ↓reduceIte, reduceCtorEq, Nat.reduceAdd, Nat.reduceLeDiff, Int.reduceBEq, Int.reduceLT, Int.reduceLE, Int.reduceEq, ne_eq, not_false_eq_true, Nat.reduceMul, voterE_val, voterE_sz, sliceE_val, sliceE_sz, *]) | (refine condK_bool (fun hb => ?_) (fun hb => ?_) <;> ((try simp only [Bool.not_eq_true', Bool.not_eq_false'] at hb) <;> (try (have hbe := of_decide_eq_true hb)) <;> (try (have hbe := eq_of_beq hb)))) | (refine aops_partB ?_) | (refine qops_partB ?_))
    exact hJ.out _ _ ⟨n - (j + 1), by omega, j + 1, by omega, rfl, rfl, by simp only [put, if_true, if_false, reduceCtorEq, Nat.reduceEqDiff], rfl⟩ (by repeat (first | exact Agree.refl _ _ | assumption | refine Agree.put ?_ rfl _))
  · have hlt' : ¬ (j : Int) < (n : Int) := by omega
    have : j = n := by omega
    subst this
    repeat' (first | (refine KV.run _ ?_) | (refine KQ.run _ ?_) | (refine KT.run _ ?_) | (refine AWp.seqH fun KC => ?_) | (refine AWp.block ?_) | (refine AWp.region ?_) | (refine mops_step0 rfl rfl fun KC => ?_) | (refine mops_step1 rfl fun KC => ?_) | (refine mops_step2 rfl fun KC => ?_) | (refine AWp.ret ?_) | (refine AWp.skip ?_) | (refine AWp.exit ?_) | (refine aops_callH rfl fun kC => ?_) | (refine qops_callH rfl fun kC => ?_) | (refine AWp.condB ?_) | (simp only [bse, wk, tys, storeH_ptr, Nat.reduceEqDiff, ↓reduceIte, reduceCtorEq, Nat.reduceAdd, Nat.reduceLeDiff, Int.reduceBEq, Int.reduceLT, Int.reduceLE, Int.reduceEq, ne_eq, not_false_eq_true, Nat.reduceMul, voterE_val, voterE_sz, sliceE_val, sliceE_sz, *]) | (refine condK_bool (fun hb => ?_) (fun hb => ?_) <;> ((try simp only [Bool.not_eq_true', Bool.not_eq_false'] at hb) <;> (try (have hbe := of_decide_eq_true hb)) <;> (try (have hbe := eq_of_beq hb)))) | (refine aops_partB ?_) | (refine qops_partB ?_))
def mVoterS (xs : List TVoter) : Nat := xs.length * 2
def mInt64SS (xs : List (List Int)) : Nat := 0
theorem laws_markVoterS0 (k : Int) : PCalls Try.prog 48 [islE voterE [], .int .i64 k] (.int .i64 k) := by
  refine PCalls.flat rfl ?_; refine ACalls.enter (n := 34) (rs := [.tmp 4]) Try.func48 rfl rfl rfl (by kernel_rfl) (by kernel_rfl) (by kernel_rfl) (Nat.le_of_ble_eq_true rfl) ?_
  repeat' (first | (refine KV.run _ ?_) | (refine KQ.run _ ?_) | (refine KT.run _ ?_) | (refine AWp.seqH fun KC => ?_) | (refine AWp.block ?_) | (refine AWp.region ?_) | (refine mops_step0 rfl rfl fun KC => ?_) | (refine mops_step1 rfl fun KC => ?_) | (refine mops_step2 rfl fun KC => ?_) | (refine AWp.ret ?_) | (refine AWp.skip ?_) | (refine AWp.exit ?_) | (refine aops_callH rfl fun kC => ?_) | (refine qops_callH rfl fun kC => ?_) | (refine AWp.condB ?_) | (simp only [bse, wk, tys, storeH_ptr, Nat.reduceEqDiff, ↓reduceIte, reduceCtorEq, Nat.reduceAdd, Nat.reduceLeDiff, Int.reduceBEq, Int.reduceLT, Int.reduceLE, Int.reduceEq, ne_eq, not_false_eq_true, Nat.reduceMul, voterE_val, voterE_sz, sliceE_val, sliceE_sz, *]) | (refine condK_bool (fun hb => ?_) (fun hb => ?_) <;> ((try simp only [Bool.not_eq_true', Bool.not_eq_false'] at hb) <;> (try (have hbe := of_decide_eq_true hb)) <;> (try (have hbe := eq_of_beq hb)))) | (refine aops_partB ?_) | (refine qops_partB ?_))
  refine AWp.loopH [6, 7, 8, 9, 12, 13, 14, 15, 16, 17, 18, 1, 19, 20, 21, 22, 23, 24, 25, 26, 27, 28, 29, 30, 31, 32, 10, 11, 5] (fun m e' H' => e' 5 = .int .i64 0 ∧ e' 1 = .int .i64 k ∧ H' = []) 0 ⟨rfl, rfl, rfl⟩ ?_
  rintro m e' H' hA ⟨h5, h1, rfl⟩ hJ
  have a0 := hA 0 rfl; have a4 := hA 4 rfl; try simp only [bse, wk, tys, storeH_ptr, Nat.reduceEqDiff, ↓reduceIte, reduceCtorEq, Nat.reduceAdd, Nat.reduceLeDiff, Int.reduceBEq, Int.reduceLT, Int.reduceLE, Int.reduceEq, ne_eq, not_false_eq_true, Nat.reduceMul] at a0 a4; clear hA
  have h00 : ¬ (0 : Int) < ((0 : Nat) : Int) := by decide
  repeat' (first | (refine KV.run _ ?_) | (refine KQ.run _ ?_) | (refine KT.run _ ?_) | (refine AWp.seqH fun KC => ?_) | (refine AWp.block ?_) | (refine AWp.region ?_) | (refine mops_step0 rfl rfl fun KC => ?_) | (refine mops_step1 rfl fun KC => ?_) | (refine mops_step2 rfl fun KC => ?_) | (refine AWp.ret ?_) | (refine AWp.skip ?_) | (refine AWp.exit ?_) | (refine aops_callH rfl fun kC => ?_) | (refine qops_callH rfl fun kC => ?_) | (refine AWp.condB ?_) | (simp only [bse, wk, tys, storeH_ptr, Nat.reduceEqDiff, ↓reduceIte, reduceCtorEq, Nat.reduceAdd, Nat.reduceLeDiff, Int.reduceBEq, Int.reduceLT, Int.reduceLE, Int.reduceEq, ne_eq, not_false_eq_true, Nat.reduceMul, voterE_val, voterE_sz, sliceE_val, sliceE_sz, *]) | (refine condK_bool (fun hb => ?_) (fun hb => ?_) <;> ((try simp only [Bool.not_eq_true', Bool.not_eq_false'] at hb) <;> (try (have hbe := of_decide_eq_true hb)) <;> (try (have hbe := eq_of_beq hb)))) | (refine aops_partB ?_) | (refine qops_partB ?_))
theorem mk_VoterS (xs : List TVoter) (hp : ∀ v ∈ xs, v.choices = []) (hn : xs.length ≤ 1048576) : MCalls Try.prog 48 54 (islE voterE xs) (mVoterS xs) := by
  unfold mVoterS
  intro H d S k ho hnd hk hk2
  have hg' := laws_heldVoterS xs.length k hk hk2 hn
  rcases ho.slI with ⟨rfl, rfl, rfl⟩ | ⟨r, sp, blk, rfl, hr, rfl, rfl, hx⟩ | ⟨r, sp, blk, S1, rfl, hr, hown, hl, hx, rfl, hc⟩
  · exact ACalls.ofP (laws_markVoterS0 k) ho.bork rfl ⟨by simp, Nat.le_refl _, fun _ _ _ => rfl, islE voterE [], .nils .nil, hg'⟩
  · exact ACalls.ofP (laws_markVoterS0 k) ho.bork rfl ⟨by simp, Nat.le_refl _, fun _ _ _ => rfl, islE voterE [], ho, hg'⟩
  · obtain ⟨el, sz, cs, ver, o⟩ := blk
    have hxl := hx rfl
    dsimp only at hown hl hxl hr hc ⊢
    subst hown
    rw [← hxl, List.take_length] at hc
    obtain ⟨c1, c2, c3⟩ := own_mv xs hp cs S1 k hc
    refine (laws_markVoterS H r xs.length ver el sz cs sp k hr c1 c3 hk (by omega) hn).mono ?_
    rintro e H' ⟨rfl, rfl⟩
    refine ⟨rfl, by simp, fun q hq hqs => List.getElem?_set_ne (by simp at hqs; omega), isl xs.length (mvT k xs.length), ?_, hg'⟩
    have hnr : ∀ q ∈ S1, q ≠ r := fun q hq e => (List.nodup_cons.1 hnd).1 (e ▸ hq)
    have hml := mv_len xs.length k cs c1
    have htl : (mvT k xs.length).length = xs.length * 3 := by rw [← c2.len, hml]
    have := OwnL.slice (x := true) (H := H.set r ⟨el, sz, mv k cs, ver, true⟩) (r := r) (sp := sp) (len := xs.length) (blk := ⟨el, sz, mv k cs, ver, true⟩) (cs := mvT k xs.length) (S := S1) (T := []) (l := []) (l' := [])
      (List.getElem?_set_self (lt_of_some hr)) rfl (by dsimp only; omega) (fun _ => by dsimp only; omega) (fun h0 => List.eq_nil_of_length_eq_zero (by omega)) (by
        dsimp only
        rw [htl, ← hml, List.take_length]
        exact c2.frame fun q hq => List.getElem?_set_ne (hnr q hq).symm) .nil
    simpa using this
theorem laws_markInt64SS0 (k : Int) : PCalls Try.prog 50 [islE (sliceE intE) [], .int .i64 k] (.int .i64 k) := by
  refine PCalls.flat rfl ?_; refine ACalls.enter (n := 19) (rs := [.tmp 4]) Try.func50 rfl rfl rfl (by kernel_rfl) (by kernel_rfl) (by kernel_rfl) (Nat.le_of_ble_eq_true rfl) ?_
  repeat' (first | (refine KV.run _ ?_) | (refine KQ.run _ ?_) | (refine KT.run _ ?_) | (refine AWp.seqH fun KC => ?_) | (refine AWp.block ?_) | (refine AWp.region ?_) | (refine mops_step0 rfl rfl fun KC => ?_) | (refine mops_step1 rfl fun KC => ?_) | (refine mops_step2 rfl fun KC => ?_) | (refine AWp.ret ?_) | (refine AWp.skip ?_) | (refine AWp.exit ?_) | (refine aops_callH rfl fun kC => ?_) | (refine qops_callH rfl fun kC => ?_) | (refine AWp.condB ?_) | (simp only [bse, wk, tys, storeH_ptr, Nat.reduceEqDiff, ↓reduceIte, reduceCtorEq, Nat.reduceAdd, Nat.reduceLeDiff, Int.reduceBEq, Int.reduceLT, Int.reduceLE, Int.reduceEq, ne_eq, not_false_eq_true, Nat.reduceMul, voterE_val, voterE_sz, sliceE_val, sliceE_sz, *]) | (refine condK_bool (fun hb => ?_) (fun hb => ?_) <;> ((try simp only [Bool.not_eq_true', Bool.not_eq_false'] at hb) <;> (try (have hbe := of_decide_eq_true hb)) <;> (try (have hbe := eq_of_beq hb)))) | (refine aops_partB ?_) | (refine qops_partB ?_))
  refine AWp.loopH [6, 7, 8, 9, 12, 13, 14, 15, 16, 17, 1, 10, 11, 5] (fun m e' H' => e' 5 = .int .i64 0 ∧ e' 1 = .int .i64 k ∧ H' = []) 0 ⟨rfl, rfl, rfl⟩ ?_
  rintro m e' H' hA ⟨h5, h1, rfl⟩ hJ
  have a0 := hA 0 rfl; have a4 := hA 4 rfl; try simp only [bse, wk, tys, storeH_ptr, Nat.reduceEqDiff, ↓reduceIte, reduceCtorEq, Nat.reduceAdd, Nat.reduceLeDiff, Int.reduceBEq, Int.reduceLT, Int.reduceLE, Int.reduceEq, ne_eq, not_false_eq_true, Nat.reduceMul] at a0 a4; clear hA
  have h00 : ¬ (0 : Int) < ((0 : Nat) : Int) := by decide
  repeat' (first | (refine KV.run _ ?_) | (refine KQ.run _ ?_) | (refine KT.run _ ?_) | (refine AWp.seqH fun KC => ?_) | (refine AWp.block ?_) | (refine AWp.region ?_) | (refine mops_step0 rfl rfl fun KC => ?_) | (refine mops_step1 rfl fun KC => ?_) | (refine mops_step2 rfl fun KC => ?_) | (refine AWp.ret ?_) | (refine AWp.skip ?_) | (refine AWp.exit ?_) | (refine aops_callH rfl fun kC => ?_) | (refine qops_callH rfl fun kC => ?_) | (refine AWp.condB ?_) | (simp only [bse, wk, tys, storeH_ptr, Nat.reduceEqDiff, ↓reduceIte, reduceCtorEq, Nat.reduceAdd, Nat.reduceLeDiff, Int.reduceBEq, Int.reduceLT, Int.reduceLE, Int.reduceEq, ne_eq, not_false_eq_true, Nat.reduceMul, voterE_val, voterE_sz, sliceE_val, sliceE_sz, *]) | (refine condK_bool (fun hb => ?_) (fun hb => ?_) <;> ((try simp only [Bool.not_eq_true', Bool.not_eq_false'] at hb) <;> (try (have hbe := of_decide_eq_true hb)) <;> (try (have hbe := eq_of_beq hb)))) | (refine aops_partB ?_) | (refine qops_partB ?_))
theorem own_em {fl : Bool} {H : AH} : ∀ (xs : List (List Int)) (hp : ∀ y ∈ xs, y = []) (cs : List Value) (S : List Nat), OwnL fl H cs ((sliceE intE).flat xs) S → cs.length = xs.length ∧ ∀ j, j < xs.length → ∃ c, cs[j]? = some c ∧ EmC H c
  | [], hp, cs, S, h => by
    obtain ⟨rfl, rfl⟩ := OwnL.nilI h
    exact ⟨rfl, fun j hj => by simp at hj⟩
  | x :: xs, hp, cs, S, h => by
    have hx := hp x (by simp)
    have h' : OwnL fl H cs (isl 0 [] :: (sliceE intE).flat xs) S := by
      have e : (sliceE intE).flat (x :: xs) = islE intE x :: (sliceE intE).flat xs := rfl
      rw [e, hx] at h
      exact h
    obtain ⟨c, m3, S1, S2, rfl, rfl, hc, h3⟩ := OwnL.consI h'
    obtain ⟨i1, i3⟩ := own_em xs (fun v hv => hp v (by simp [hv])) m3 S2 h3
    refine ⟨by simp [i1], fun j hj => ?_⟩
    cases j with
    | zero => exact ⟨c, rfl, hc.emI rfl⟩
    | succ j => exact i3 j (by simpa using hj)
theorem laws_markInt64SS (H : AH) (r n ver el sz : Nat) (cs : List Value) (sp : Option Nat) (k : Int) (hb : H[r]? = some ⟨el, sz, cs, ver, true⟩) (hl : cs.length = n) (hem : ∀ j, j < n → ∃ c, cs[j]? = some c ∧ EmC H c) (hk : 0 ≤ k) (hk2 : k ≤ 1000000000000000) (hn : n ≤ 1048576) :
    ACalls Try.prog 0 50 [.slice (some ⟨r, 0, sp⟩) n ver, .int .i64 k] H fun d H' => d = .int .i64 k ∧ H = H' := by
  refine ACalls.enter (n := 19) (rs := [.tmp 4]) Try.func50 rfl rfl rfl (by kernel_rfl) (by kernel_rfl) (by kernel_rfl) (Nat.le_of_ble_eq_true rfl) ?_
  repeat' (first | (refine KV.run _ ?_) | (refine KQ.run _ ?_) | (refine KT.run _ ?_) | (refine AWp.seqH fun KC => ?_) | (refine AWp.block ?_) | (refine AWp.region ?_) | (refine mops_step0 rfl rfl fun KC => ?_) | (refine mops_step1 rfl fun KC => ?_) | (refine mops_step2 rfl fun KC => ?_) | (refine AWp.ret ?_) | (refine AWp.skip ?_) | (refine AWp.exit ?_) | (refine aops_callH rfl fun kC => ?_) | (refine qops_callH rfl fun kC => ?_) | (refine AWp.condB ?_) | (simp only [bse, wk, tys, storeH_ptr, Nat.reduceEqDiff, ↓reduceIte, reduceCtorEq, Nat.reduceAdd, Nat.reduceLeDiff, Int.reduceBEq, Int.reduceLT, Int.reduceLE, Int.reduceEq, ne_eq, not_false_eq_true, Nat.reduceMul, voterE_val, voterE_sz, sliceE_val, sliceE_sz, *]) | (refine condK_bool (fun hb => ?_) (fun hb => ?_) <;> ((try simp only [Bool.not_eq_true', Bool.not_eq_false'] at hb) <;> (try (have hbe := of_decide_eq_true hb)) <;> (try (have hbe := eq_of_beq hb)))) | (refine aops_partB ?_) | (refine qops_partB ?_))
  refine AWp.loopH [6, 7, 8, 9, 12, 13, 14, 15, 16, 17, 1, 10, 11, 5] (fun m e' H' => ∃ j : Nat, j ≤ n ∧ m = n - j ∧ e' 5 = .int .i64 j ∧ e' 1 = .int .i64 k ∧ H' = H) n ⟨0, by omega, by omega, rfl, rfl, rfl⟩ ?_
  rintro m e' H' hA ⟨j, hj, rfl, h5, h1, rfl⟩ hJ
  have a0 := hA 0 rfl; have a4 := hA 4 rfl; try simp only [bse, wk, tys, storeH_ptr, Nat.reduceEqDiff, ↓reduceIte, reduceCtorEq, Nat.reduceAdd, Nat.reduceLeDiff, Int.reduceBEq, Int.reduceLT, Int.reduceLE, Int.reduceEq, ne_eq, not_false_eq_true, Nat.reduceMul] at a0 a4; clear hA
  by_cases hlt : j < n
  · have hlt' : (j : Int) < (n : Int) := by omega
    obtain ⟨c, hcj, hce⟩ := hem j hlt
    obtain ⟨a, cv, rfl, -⟩ := id hce
    have hw := wr_succ (k := j) (by omega)
    have hl2 : loadV Try.prog H' 22 (.pointer (some ⟨r, j, some ver⟩)) = some (.slice a 0 cv) := by
      rw [loadV_ptr, show lay Try.prog 22 = some (false, 1) from lay22]
      simp only [Option.bind_some, getB_eq, hb, and_self, if_true, getVar_f]
      exact hcj
    have hpk : ACalls Try.prog 0 13 [.slice a 0 cv, .int .i64 k] H' fun d H3 => d = .int .i64 k ∧ H' = H3 := ACalls.ofP (laws_markInt64S0 _) (.cons hce.bor (.cons (.same _ (.flat _ rfl)) .nil)) rfl ⟨rfl, rfl⟩
    clear hem hcj hce hl
    repeat' (first | (refine ACalls.start ?_; first | (refine ACalls.get (hpk) (by first | exact Nat.le_refl _ | exact Nat.zero_le _ | (simp only [List.length_append, List.length_cons, List.length_nil]; omega) | (simp only [List.length_set]; omega) | omega) (by first | exact Nat.le_refl _ | exact Nat.zero_le _ | (simp only [List.length_append, List.length_cons, List.length_nil]; omega) | (simp only [List.length_set]; omega) | omega) ?_; rintro _ _ ⟨rfl, rfl⟩)) | (refine KV.run _ ?_) | (refine KQ.run _ ?_) | (refine KT.run _ ?_) | (refine AWp.seqH fun KC => ?_) | (refine AWp.block ?_) | (refine AWp.region ?_) | (refine mops_step0 rfl rfl fun KC => ?_) | (refine mops_step1 rfl fun KC => ?_) | (refine mops_step2 rfl fun KC => ?_) | (refine AWp.ret ?_) | (refine AWp.skip ?_) | (refine AWp.exit ?_) | (refine aops_callH rfl fun kC => ?_) | (refine qops_callH rfl fun kC => ?_) | (refine AWp.condB ?_) | (simp only [bse, wk, tys, Nat.reduceEqDiff, ↓reduceIte, reduceCtorEq, Nat.reduceAdd, Nat.reduceLeDiff, Int.reduceBEq, Int.reduceLT, Int.reduceLE, Int.reduceEq, ne_eq, not_false_eq_true, Nat.reduceMul, voterE_val, voterE_sz, sliceE_val, sliceE_sz, *]) | (refine condK_bool (fun hb => ?_) (fun hb => ?_) <;> ((try simp only [Bool.not_eq_true', Bool.not_eq_false'] at hb) <;> (try (have hbe := of_decide_eq_true hb)) <;> (try (have hbe := eq_of_beq hb)))) | (refine aops_partB ?_) | (refine qops_partB ?_))
    exact hJ.out _ _ ⟨n - (j + 1), by omega, j + 1, by omega, rfl, rfl, rfl, rfl⟩ (by repeat (first | exact Agree.refl _ _ | assumption | refine Agree.put ?_ rfl _))
  · have hlt' : ¬ (j : Int) < (n : Int) := by omega
    clear hem hl
    repeat' (first | (refine KV.run _ ?_) | (refine KQ.run _ ?_) | (refine KT.run _ ?_) | (refine AWp.seqH fun KC => ?_) | (refine AWp.block ?_) | (refine AWp.region ?_) | (refine mops_step0 rfl rfl fun KC => ?_) | (refine mops_step1 rfl fun KC => ?_) | (refine mops_step2 rfl fun KC => ?_) | (refine AWp.ret ?_) | (refine AWp.skip ?_) | (refine AWp.exit ?_) | (refine aops_callH rfl fun kC => ?_) | (refine qops_callH rfl fun kC => ?_) | (refine AWp.condB ?_) | (simp only [bse, wk, tys, storeH_ptr, Nat.reduceEqDiff, ↓reduceIte, reduceCtorEq, Nat.reduceAdd, Nat.reduceLeDiff, Int.reduceBEq, Int.reduceLT, Int.reduceLE, Int.reduceEq, ne_eq, not_false_eq_true, Nat.reduceMul, voterE_val, voterE_sz, sliceE_val, sliceE_sz, *]) | (refine condK_bool (fun hb => ?_) (fun hb => ?_) <;> ((try simp only [Bool.not_eq_true', Bool.not_eq_false'] at hb) <;> (try (have hbe := of_decide_eq_true hb)) <;> (try (have hbe := eq_of_beq hb)))) | (refine aops_partB ?_) | (refine qops_partB ?_))
    all_goals first | exact ⟨rfl, rfl⟩ | rfl | trivial
theorem flat_em : ∀ (xs : List (List Int)), (∀ y ∈ xs, y = []) → ∀ j, j < xs.length → ((sliceE intE).flat xs)[j]? = some (isl 0 [])
  | [], hp, j, h => by simp at h
  | x :: xs, hp, 0, h => by
    have hx := hp x (by simp)
    subst hx
    rfl
  | x :: xs, hp, j + 1, h => flat_em xs (fun y hy => hp y (by simp [hy])) j (by simpa using h)
theorem laws_heldInt64SS (xs : List (List Int)) (hp : ∀ y ∈ xs, y = []) (k : Int) (hk : 0 ≤ k) (hk2 : k ≤ 1000000000000000) (hn : xs.length ≤ 1048576) :
    PCalls Try.prog 56 [islE (sliceE intE) xs, .int .i64 k] (.int .i64 k) := by
  have hlen := lenV_isl (P := Try.prog) (H := []) (n := xs.length) (cs := (sliceE intE).flat xs) elZ30
  have hfl := flat_em xs hp
  show PCalls Try.prog 56 [isl xs.length ((sliceE intE).flat xs), .int .i64 k] (.int .i64 k)
  have hh := laws_heldInt64S0 k hk hk2
  have hq : ¬ k < 0 := by omega
  haveI im1 : ImC (isl xs.length ((sliceE intE).flat xs)) := ⟨islE_im (sliceE intE) xs⟩
  generalize (sliceE intE).flat xs = cs at hlen hfl im1 ⊢
  generalize xs.length = n at hlen hfl hn im1 ⊢
  clear hp
  refine PCalls.flat rfl ?_; refine ACalls.enter (n := 21) (rs := [.tmp 4]) Try.func56 rfl rfl rfl (by kernel_rfl) (by kernel_rfl) (by kernel_rfl) (Nat.le_of_ble_eq_true rfl) ?_
  repeat' (first | (refine KV.run _ ?_) | (refine KQ.run _ ?_) | (refine KT.run _ ?_) | (refine AWp.seqH fun KC => ?_) | (refine AWp.block ?_) | (refine AWp.region ?_) | (refine mops_step0 rfl rfl fun KC => ?_) | (refine mops_step1 rfl fun KC => ?_) | (refine mops_step2 rfl fun KC => ?_) | (refine AWp.ret ?_) | (refine AWp.skip ?_) | (refine AWp.exit ?_) | (refine aops_callH rfl fun kC => ?_) | (refine qops_callH rfl fun kC => ?_) | (refine AWp.condB ?_) | (simp only [bse, wk, tys, storeH_ptr, Nat.reduceEqDiff, ↓reduceIte, reduceCtorEq, Nat.reduceAdd, Nat.reduceLeDiff, Int.reduceBEq, Int.reduceLT, Int.reduceLE, Int.reduceEq, ne_eq, not_false_eq_true, Nat.reduceMul, voterE_val, voterE_sz, sliceE_val, sliceE_sz, *]) | (refine condK_bool (fun hb => ?_) (fun hb => ?_) <;> ((try simp only [Bool.not_eq_true', Bool.not_eq_false'] at hb) <;> (try (have hbe := of_decide_eq_true hb)) <;> (try (have hbe := eq_of_beq hb)))) | (refine aops_partB ?_) | (refine qops_partB ?_))
  refine AWp.loopH [6, 7, 8, 9, 12, 13, 14, 15, 16, 17, 1, 18, 19, 4, 10, 11, 5] (fun m e' H' => ∃ j : Nat, j ≤ n ∧ m = n - j ∧ e' 5 = .int .i64 j ∧ e' 1 = .int .i64 k ∧ H' = []) n ⟨0, by omega, by omega, rfl, rfl, rfl⟩ ?_
  rintro m e' H' hA ⟨j, hj, rfl, h5, h1, rfl⟩ hJ
  have a0 := hA 0 rfl; try simp only [bse, wk, tys, storeH_ptr, Nat.reduceEqDiff, ↓reduceIte, reduceCtorEq, Nat.reduceAdd, Nat.reduceLeDiff, Int.reduceBEq, Int.reduceLT, Int.reduceLE, Int.reduceEq, ne_eq, not_false_eq_true, Nat.reduceMul] at a0; clear hA
  by_cases hlt : j < n
  · have hlt' : (j : Int) < (n : Int) := by omega
    have hi := idxV_isl (P := Try.prog) (H := []) (n := n) (kd := .i64) (cs := cs) elZ30 hlt
    have hv0 := hfl j hlt
    have hl0 := load_ip1 (P := Try.prog) (H := []) (T := 22) (p := j) lay22 hv0
    have hw := wr_succ (k := j) (by omega)
    haveI im0 : ImC (isl 0 []) := ⟨Im.isl Im.nilL⟩
    clear hfl hv0
    rw [Nat.mul_one] at hi
    repeat' (first | (refine ACalls.start ?_; first | (refine ACalls.ofJi (hh) rfl ?_)) | (refine qcall_start ?_; first | (refine qcallFi (hh) rfl ?_ ?_; (focus ((first | exact rfl | (simp [pureV, flatV, voterE_val, voterE_sz, sliceE_val, sliceE_sz]; done)))))) | (refine KV.run _ ?_) | (refine KQ.run _ ?_) | (refine KT.run _ ?_) | (refine AWp.seqH fun KC => ?_) | (refine AWp.block ?_) | (refine AWp.region ?_) | (refine mops_step0 rfl rfl fun KC => ?_) | (refine mops_step1 rfl fun KC => ?_) | (refine mops_step2 rfl fun KC => ?_) | (refine AWp.ret ?_) | (refine AWp.skip ?_) | (refine AWp.exit ?_) | (refine aops_callH rfl fun kC => ?_) | (refine qops_callH rfl fun kC => ?_) | (refine AWp.condB ?_) | (simp only [bse, wk, tys, storeH_ptr, Nat.reduceEqDiff, ↓reduceIte, reduceCtorEq, Nat.reduceAdd, Nat.reduceLeDiff, Int.reduceBEq, Int.reduceLT, Int.reduceLE, Int.reduceEq, ne_eq, not_false_eq_true, Nat.reduceMul, voterE_val, voterE_sz, sliceE_val, sliceE_sz, *]) | (refine condK_bool (fun hb => ?_) (fun hb => ?_) <;> ((try simp only [Bool.not_eq_true', Bool.not_eq_false'] at hb) <;> (try (have hbe := of_decide_eq_true hb)) <;> (try (have hbe := eq_of_beq hb)))) | (refine aops_partB ?_) | (refine qops_partB ?_))
    exact hJ.out _ _ ⟨n - (j + 1), by omega, j + 1, by omega, rfl, rfl, rfl, rfl⟩ (by repeat (first | exact Agree.refl _ _ | assumption | refine Agree.put ?_ rfl _))
  · have hlt' : ¬ (j : Int) < (n : Int) := by omega
    clear hfl
    repeat' (first | (refine KV.run _ ?_) | (refine KQ.run _ ?_) | (refine KT.run _ ?_) | (refine AWp.seqH fun KC => ?_) | (refine AWp.block ?_) | (refine AWp.region ?_) | (refine mops_step0 rfl rfl fun KC => ?_) | (refine mops_step1 rfl fun KC => ?_) | (refine mops_step2 rfl fun KC => ?_) | (refine AWp.ret ?_) | (refine AWp.skip ?_) | (refine AWp.exit ?_) | (refine aops_callH rfl fun kC => ?_) | (refine qops_callH rfl fun kC => ?_) | (refine AWp.condB ?_) | (simp only [bse, wk, tys, storeH_ptr, Nat.reduceEqDiff, ↓reduceIte, reduceCtorEq, Nat.reduceAdd, Nat.reduceLeDiff, Int.reduceBEq, Int.reduceLT, Int.reduceLE, Int.reduceEq, ne_eq, not_false_eq_true, Nat.reduceMul, voterE_val, voterE_sz, sliceE_val, sliceE_sz, *]) | (refine condK_bool (fun hb => ?_) (fun hb => ?_) <;> ((try simp only [Bool.not_eq_true', Bool.not_eq_false'] at hb) <;> (try (have hbe := of_decide_eq_true hb)) <;> (try (have hbe := eq_of_beq hb)))) | (refine aops_partB ?_) | (refine qops_partB ?_))
theorem mk_Int64SS (xs : List (List Int)) (hp : ∀ y ∈ xs, y = []) (hn : xs.length ≤ 1048576) : MCalls Try.prog 50 56 (islE (sliceE intE) xs) (mInt64SS xs) := by
  unfold mInt64SS
  intro H d S k ho hnd hk hk2
  have hg' := laws_heldInt64SS xs hp k hk (by omega) hn
  have e0 : k + ((0 : Nat) : Int) = k := by omega
  rcases ho.slI with ⟨rfl, rfl, rfl⟩ | ⟨r, sp, blk, rfl, hr, rfl, rfl, hx⟩ | ⟨r, sp, blk, S1, rfl, hr, hown, hl, hx, rfl, hc⟩
  · exact ACalls.ofP (laws_markInt64SS0 k) ho.bork rfl ⟨by rw [e0], Nat.le_refl _, fun _ _ _ => rfl, islE (sliceE intE) [], .nils .nil, by rw [e0]; exact hg'⟩
  · exact ACalls.ofP (laws_markInt64SS0 k) ho.bork rfl ⟨by rw [e0], Nat.le_refl _, fun _ _ _ => rfl, islE (sliceE intE) [], ho, by rw [e0]; exact hg'⟩
  · obtain ⟨el, sz, cs, ver, o⟩ := blk
    have hxl := hx rfl
    dsimp only at hown hl hxl hr hc ⊢
    subst hown
    rw [← hxl, List.take_length] at hc
    obtain ⟨c1, c3⟩ := own_em xs hp cs S1 hc
    refine (laws_markInt64SS H r xs.length ver el sz cs sp k hr c1 c3 hk (by omega) hn).mono ?_
    rintro e H' ⟨rfl, rfl⟩
    exact ⟨by rw [e0], Nat.le_refl _, fun _ _ _ => rfl, _, ho, by rw [e0]; exact hg'⟩
end Go.BM
