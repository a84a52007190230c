/- The reference's words: a text cut at a byte, a number of few digits. -/
import Derived.Test.YtboephigjgncaaaGreatDoorT1
import Derived.Test.YtboephigjgncaaaGreatDoorC39
set_option linter.unusedVariables false
set_option linter.unusedSimpArgs false
set_option maxRecDepth 100000
set_option maxHeartbeats 4000000
namespace Go.BM
open Go.Proofs Go.RowKit
attribute [local irreducible] ACalls AWp aops qops optK optP cK gateA condK mops qcallK PCalls loadV fldV idxV lenV slV storeH binS
/-- A text cut at a byte. -/
def cutL (c : UInt8) : List UInt8 → List (List UInt8)
  | [] => [[]]
  | x :: l => if x = c then [] :: cutL c l else match cutL c l with
    | [] => [[x]]
    | w :: ws => (x :: w) :: ws
theorem cutL_ne (c : UInt8) : ∀ l : List UInt8, cutL c l ≠ []
  | [] => by simp [cutL]
  | x :: l => by
    unfold cutL
    split
    · simp
    · split <;> simp
theorem cutL_app (c : UInt8) : ∀ (a l : List UInt8), (∀ x ∈ a, x ≠ c) → cutL c (a ++ c :: l) = a :: cutL c l
  | [], l, _ => by simp [cutL]
  | x :: a, l, h => by
    have hx := h x (by simp)
    rw [List.cons_append, cutL, if_neg hx, cutL_app c a l fun y hy => h y (by simp [hy])]
theorem cutL_one (c : UInt8) : ∀ (a : List UInt8), (∀ x ∈ a, x ≠ c) → cutL c a = [a]
  | [], _ => rfl
  | x :: a, h => by
    have hx := h x (by simp)
    rw [cutL, if_neg hx, cutL_one c a fun y hy => h y (by simp [hy])]
theorem cutL_mem (c : UInt8) : ∀ (l w : List UInt8), w ∈ cutL c l → w.length ≤ l.length
  | [], w, h => by simp [cutL] at h; simp [h]
  | x :: l, w, h => by
    have ih := cutL_mem c l
    unfold cutL at h
    split at h
    · rcases List.mem_cons.1 h with rfl | h
      · simp
      · have := ih w h; simp; omega
    · split at h
      · simp at h; subst h; simp
      · rename_i w0 ws he
        rcases List.mem_cons.1 h with rfl | h
        · have := ih w0 (by rw [he]; simp); simp; omega
        · have := ih w (by rw [he]; simp [h]); simp; omega
theorem cutL_len (c : UInt8) : ∀ l : List UInt8, (cutL c l).length ≤ l.length + 1
  | [] => by simp [cutL]
  | x :: l => by
    have ih := cutL_len c l
    unfold cutL
    split
    · simp; omega
    · split
      · simp
      · rename_i w0 ws he; rw [he] at ih; simp at ih ⊢; omega
def cutW (c : UInt8) (t : List UInt8) : List ByteArray := (cutL c t).map bs
def CutS (c : UInt8) (t : List UInt8) (i f : Nat) (ys : List ByteArray) : Prop :=
  (i ≤ t.length → (∀ x ∈ (t.drop f).take (i - f), x ≠ c) ∧ ys ++ (cutL c (t.drop f)).map bs = cutW c t) ∧ (t.length < i → ys = cutW c t)
theorem CutS.fin {c : UInt8} {t : List UInt8} {i f : Nat} {ys : List ByteArray} (h : CutS c t i f ys) (hf : f ≤ i) (hi : i = t.length) : CutS c t (i + 1) (i + 1) (ys ++ [bs ((t.drop f).take (i - f))]) := by
  subst hi
  obtain ⟨h1, h2⟩ := h.1 (Nat.le_refl _)
  have ht : (t.drop f).take (t.length - f) = t.drop f := List.take_of_length_le (by rw [List.length_drop]; exact Nat.le_refl _)
  rw [ht] at h1 ⊢
  refine ⟨fun h => by omega, fun _ => ?_⟩
  rw [cutL_one c _ h1] at h2
  exact h2
theorem CutS.hit {c : UInt8} {t : List UInt8} {i f : Nat} {ys : List ByteArray} (h : CutS c t i f ys) (hf : f ≤ i) (hi : i < t.length) (hc : t.getD i 0 = c) : CutS c t (i + 1) (i + 1) (ys ++ [bs ((t.drop f).take (i - f))]) := by
  obtain ⟨h1, h2⟩ := h.1 (by omega)
  refine ⟨fun _ => ⟨fun x hx => by simp at hx, ?_⟩, fun h => by omega⟩
  have hs : t.drop f = (t.drop f).take (i - f) ++ c :: t.drop (i + 1) := by
    conv => lhs; rw [← List.take_append_drop (i - f) (t.drop f)]
    congr 1
    rw [List.drop_drop, show f + (i - f) = i by omega, List.drop_eq_getElem_cons hi]
    rw [← hc]
    simp [List.getD, List.getElem?_eq_getElem hi]
  rw [hs, cutL_app c _ _ h1] at h2
  rw [← h2]
  simp
theorem CutS.miss {c : UInt8} {t : List UInt8} {i f : Nat} {ys : List ByteArray} (h : CutS c t i f ys) (hf : f ≤ i) (hi : i < t.length) (hc : t.getD i 0 ≠ c) : CutS c t (i + 1) f ys := by
  obtain ⟨h1, h2⟩ := h.1 (by omega)
  refine ⟨fun _ => ⟨fun x hx => ?_, h2⟩, fun h => by omega⟩
  rw [show i + 1 - f = (i - f) + 1 by omega] at hx
  have hlt : i - f < (t.drop f).length := by rw [List.length_drop]; omega
  rw [← take_next _ _ hlt] at hx
  rcases List.mem_append.1 hx with hx | hx
  · exact h1 x hx
  · rw [List.mem_singleton] at hx
    subst hx
    rw [List.getElem_drop]
    simp only [show f + (i - f) = i by omega]
    simpa [List.getD, List.getElem?_eq_getElem hi] using hc
theorem strE_app1 (ys : List ByteArray) (y : ByteArray) : strE.flat (ys ++ [y]) = strE.flat ys ++ [.string y] := by
  rw [strE.flat_append]
  rfl
theorem u8_eq (a b : UInt8) : (((a.toNat : Nat) : Int) == ((b.toNat : Nat) : Int)) = decide (a = b) := by
  by_cases h : a = b
  · subst h; simp
  · have : a.toNat ≠ b.toNat := fun e => h (UInt8.toNat_inj.1 e)
    simp [h]
    omega
theorem slV_bs2 {P : Program} {H : AH} {tt : TypeId} (h : P.underlying tt = some .string) (l : List UInt8) (i j : Nat) (hij : i ≤ j) (hj : j ≤ l.length) : slV P H tt (.string (bs l)) (some (.int .i64 (i : Int))) (some (.int .i64 (j : Int))) none = some (.string (bs ((l.drop i).take (j - i)))) := by
  unfold slV
  dsimp only
  rw [strSl2 _ l _ _ _ _ h, if_pos ⟨by omega, by omega, by omega⟩, Int.toNat_natCast, Int.toNat_natCast]
theorem spec_l2Cut (t : List UInt8) (c : UInt8) (cn : Int) (hcn : cn = ((c.toNat : Nat) : Int)) (hn : t.length ≤ 1048576) : PCalls Tryz.prog 67 [.string (bs t), .int .u8 cn] (islE strE (cutW c t)) := by
  subst hcn
  refine PCalls.of ?_; refine ACalls.enter (n := 36) (rs := [.tmp 4]) Tryz.func67 rfl rfl rfl (by kernel_rfl) (by kernel_rfl) (by kernel_rfl) (Nat.le_of_ble_eq_true rfl) ?_
  repeat' (first | (refine KV.run _ ?_) | (refine KQ.run _ ?_) | (refine KT.run _ ?_) | (refine AWp.seqH fun KC => ?_) | (refine AWp.block ?_) | (refine AWp.region ?_) | (refine mops_step0 rfl rfl fun KC => ?_) | (refine mops_step1 rfl fun KC => ?_) | (refine mops_step2 rfl fun KC => ?_) | (refine AWp.ret ?_) | (refine AWp.skip ?_) | (refine AWp.exit ?_) | (refine aops_callH rfl fun kC => ?_) | (refine qops_callH rfl fun kC => ?_) | (refine AWp.condB ?_) | (simp only [bse, wk, tys, storeH_ptr, Nat.reduceEqDiff, ↓reduceIte, reduceCtorEq, Nat.reduceAdd, Nat.reduceLeDiff, Int.reduceBEq, Int.reduceLT, Int.reduceLE, Int.reduceEq, ne_eq, not_false_eq_true, Nat.reduceMul, Int.reduceToNat, Int.toNat_zero, *]) | (refine condK_bool (fun hb => ?_) (fun hb => ?_) <;> ((try simp only [Bool.not_eq_true', Bool.not_eq_false'] at hb) <;> (try (have hbe := of_decide_eq_true hb)) <;> (try (have hbe := eq_of_beq hb)))) | (refine aops_partB ?_) | (refine qops_partB ?_))
  refine AWp.loopH [9, 10, 11, 12, 15, 16, 17, 18, 19, 20, 21, 22, 23, 24, 25, 26, 27, 28, 29, 30, 31, 32, 5, 33, 34, 6, 13, 14, 7] (fun m e' H' => ∃ (i f ver : Nat) (ys : List ByteArray) (G : AH), i ≤ t.length + 1 ∧ m = t.length + 1 - i ∧ f ≤ i ∧ ys.length ≤ i ∧ e' 7 = .int .i64 i ∧ e' 6 = .int .i64 f ∧ e' 5 = .slice (some ⟨0, 0, none⟩) ys.length ver ∧ H' = ⟨9, 1, strE.flat ys, ver, true⟩ :: G ∧ Hid (CutS c t i f ys)) (t.length + 1) ⟨0, 0, 0, [], [], by omega, by omega, by omega, by simp, rfl, rfl, rfl, rfl, ⟨fun _ => ⟨fun x hx => by simp at hx, rfl⟩, fun h => by omega⟩⟩ ?_
  rintro m e' H' hA ⟨i, f, ver, ys, G, hi, rfl, hf, hy, e7, e6, e5, rfl, hF⟩ hJ
  have a0 := hA 0 rfl; have a1 := hA 1 rfl; have a4 := hA 4 rfl; try simp only [bse, wk, tys, storeH_ptr, Nat.reduceEqDiff, ↓reduceIte, reduceCtorEq, Nat.reduceAdd, Nat.reduceLeDiff, Int.reduceBEq, Int.reduceLT, Int.reduceLE, Int.reduceEq, ne_eq, not_false_eq_true, Nat.reduceMul] at a0 a1 a4; clear hA
  by_cases hle : i ≤ t.length
  · have hle' : (i : Int) ≤ (t.length : Int) := by omega
    have hw := wr_succ (k := i) (by omega)
    have hfi : (f : Int) ≤ (i : Int) := by omega
    have h0f : (0 : Int) ≤ (f : Int) := by omega
    have hap := fun y : ByteArray => appendH_one (P := Tryz.prog) (B := 0) (E := strE) (H0 := ⟨9, 1, strE.flat ys, ver, true⟩ :: G) (ys := ys) y elZ22 elZ22 zOk22 (r := 0) rfl (Nat.zero_le _) (by omega) (by omega)
    simp only [List.cons_append, List.length_cons, List.set_cons_succ, List.set_cons_zero, strE_sz, strE_val, cells_str] at hap
    have hsl := fun H : AH => slV_bs2 (P := Tryz.prog) (H := H) Tryz.underlying9 t f i hf hle
    by_cases hn : i = t.length
    · have hst : Hid _ := hF.out.fin hf hn
      clear hF
      have hn' : ((i : Int) == (t.length : Int)) = true := by simp [hn]
      have hil : (i : Int) = (t.length : Int) := by omega
      clear hn hil
      repeat' (first | (refine KV.run _ ?_) | (refine KQ.run _ ?_) | (refine KT.run _ ?_) | (refine AWp.seqH fun KC => ?_) | (refine AWp.block ?_) | (refine AWp.region ?_) | (refine mops_step0 rfl rfl fun KC => ?_) | (refine mops_step1 rfl fun KC => ?_) | (refine mops_step2 rfl fun KC => ?_) | (refine AWp.ret ?_) | (refine AWp.skip ?_) | (refine AWp.exit ?_) | (refine aops_callH rfl fun kC => ?_) | (refine qops_callH rfl fun kC => ?_) | (refine AWp.condB ?_) | (simp only [bse, wk, tys, storeH_ptr, Nat.reduceEqDiff, ↓reduceIte, reduceCtorEq, Nat.reduceAdd, Nat.reduceLeDiff, Int.reduceBEq, Int.reduceLT, Int.reduceLE, Int.reduceEq, ne_eq, not_false_eq_true, Nat.reduceMul, Int.reduceToNat, Int.toNat_zero, *]) | (refine condK_bool (fun hb => ?_) (fun hb => ?_) <;> ((try simp only [Bool.not_eq_true', Bool.not_eq_false'] at hb) <;> (try (have hbe := of_decide_eq_true hb)) <;> (try (have hbe := eq_of_beq hb)))) | (refine aops_partB ?_) | (refine qops_partB ?_))
      exact hJ.out _ _ ⟨t.length + 1 - (i + 1), by omega, i + 1, i + 1, ver + 1, ys ++ [_], _, by omega, rfl, by omega, by simp; omega, rfl, rfl, by simp [put], rfl, hst⟩ (by repeat (first | exact Agree.refl _ _ | assumption | refine Agree.put ?_ rfl _))
    · have hlt : (i : Int) < (t.length : Int) := by omega
      have h0i : (0 : Int) ≤ (i : Int) := by omega
      have hn' : ((i : Int) == (t.length : Int)) = false := by simp; omega
      have hu := u8_eq (t.getD i 0) c
      by_cases hc : t.getD i 0 = c
      · have hst : Hid _ := hF.out.hit hf (by omega) hc
        have hu' : (((t.getD i 0).toNat : Int) == (c.toNat : Int)) = true := by rw [hu]; exact decide_eq_true hc
        clear hF hu hc hn
        repeat' (first | (refine KV.run _ ?_) | (refine KQ.run _ ?_) | (refine KT.run _ ?_) | (refine AWp.seqH fun KC => ?_) | (refine AWp.block ?_) | (refine AWp.region ?_) | (refine mops_step0 rfl rfl fun KC => ?_) | (refine mops_step1 rfl fun KC => ?_) | (refine mops_step2 rfl fun KC => ?_) | (refine AWp.ret ?_) | (refine AWp.skip ?_) | (refine AWp.exit ?_) | (refine aops_callH rfl fun kC => ?_) | (refine qops_callH rfl fun kC => ?_) | (refine AWp.condB ?_) | (simp only [bse, wk, tys, storeH_ptr, Nat.reduceEqDiff, ↓reduceIte, reduceCtorEq, Nat.reduceAdd, Nat.reduceLeDiff, Int.reduceBEq, Int.reduceLT, Int.reduceLE, Int.reduceEq, ne_eq, not_false_eq_true, Nat.reduceMul, Int.reduceToNat, Int.toNat_zero, *]) | (refine condK_bool (fun hb => ?_) (fun hb => ?_) <;> ((try simp only [Bool.not_eq_true', Bool.not_eq_false'] at hb) <;> (try (have hbe := of_decide_eq_true hb)) <;> (try (have hbe := eq_of_beq hb)))) | (refine aops_partB ?_) | (refine qops_partB ?_))
        exact hJ.out _ _ ⟨t.length + 1 - (i + 1), by omega, i + 1, i + 1, ver + 1, ys ++ [_], _, by omega, rfl, by omega, by simp; omega, rfl, rfl, by simp [put], rfl, hst⟩ (by repeat (first | exact Agree.refl _ _ | assumption | refine Agree.put ?_ rfl _))
      · have hst : Hid _ := hF.out.miss hf (by omega) hc
        have hu' : (((t.getD i 0).toNat : Int) == (c.toNat : Int)) = false := by rw [hu]; exact decide_eq_false hc
        clear hF hu hc hn
        repeat' (first | (refine KV.run _ ?_) | (refine KQ.run _ ?_) | (refine KT.run _ ?_) | (refine AWp.seqH fun KC => ?_) | (refine AWp.block ?_) | (refine AWp.region ?_) | (refine mops_step0 rfl rfl fun KC => ?_) | (refine mops_step1 rfl fun KC => ?_) | (refine mops_step2 rfl fun KC => ?_) | (refine AWp.ret ?_) | (refine AWp.skip ?_) | (refine AWp.exit ?_) | (refine aops_callH rfl fun kC => ?_) | (refine qops_callH rfl fun kC => ?_) | (refine AWp.condB ?_) | (simp only [bse, wk, tys, storeH_ptr, Nat.reduceEqDiff, ↓reduceIte, reduceCtorEq, Nat.reduceAdd, Nat.reduceLeDiff, Int.reduceBEq, Int.reduceLT, Int.reduceLE, Int.reduceEq, ne_eq, not_false_eq_true, Nat.reduceMul, Int.reduceToNat, Int.toNat_zero, *]) | (refine condK_bool (fun hb => ?_) (fun hb => ?_) <;> ((try simp only [Bool.not_eq_true', Bool.not_eq_false'] at hb) <;> (try (have hbe := of_decide_eq_true hb)) <;> (try (have hbe := eq_of_beq hb)))) | (refine aops_partB ?_) | (refine qops_partB ?_))
        exact hJ.out _ _ ⟨t.length + 1 - (i + 1), by omega, i + 1, f, ver, ys, _, by omega, rfl, by omega, by omega, rfl, e6, e5, rfl, hst⟩ (by repeat (first | exact Agree.refl _ _ | assumption | refine Agree.put ?_ rfl _))
  · have hle' : ¬ (i : Int) ≤ (t.length : Int) := by omega
    have hs : Hid (ys = cutW c t) := hF.out.2 (by omega)
    clear hF
    have hs2 := hs.out
    clear hs
    subst hs2
    repeat' (first | (refine KV.run _ ?_) | (refine KQ.run _ ?_) | (refine KT.run _ ?_) | (refine AWp.seqH fun KC => ?_) | (refine AWp.block ?_) | (refine AWp.region ?_) | (refine mops_step0 rfl rfl fun KC => ?_) | (refine mops_step1 rfl fun KC => ?_) | (refine mops_step2 rfl fun KC => ?_) | (refine AWp.ret ?_) | (refine AWp.skip ?_) | (refine AWp.exit ?_) | (refine aops_callH rfl fun kC => ?_) | (refine qops_callH rfl fun kC => ?_) | (refine AWp.condB ?_) | (simp only [bse, wk, tys, storeH_ptr, Nat.reduceEqDiff, ↓reduceIte, reduceCtorEq, Nat.reduceAdd, Nat.reduceLeDiff, Int.reduceBEq, Int.reduceLT, Int.reduceLE, Int.reduceEq, ne_eq, not_false_eq_true, Nat.reduceMul, Int.reduceToNat, Int.toNat_zero, *]) | (refine condK_bool (fun hb => ?_) (fun hb => ?_) <;> ((try simp only [Bool.not_eq_true', Bool.not_eq_false'] at hb) <;> (try (have hbe := of_decide_eq_true hb)) <;> (try (have hbe := eq_of_beq hb)))) | (refine aops_partB ?_) | (refine qops_partB ?_))
    exact Bor.sb (E := strE) rfl (fun _ => rfl) rfl
/-- The value of digits. -/
def valD (l : List UInt8) : Nat := l.foldl (fun v x => v * 10 + (x.toNat - 48)) 0
def digB (x : UInt8) : Bool := !(decide (((x.toNat : Nat) : Int) < 48)) && !(decide ((57 : Int) < ((x.toNat : Nat) : Int)))
theorem valD_step (l : List UInt8) (i : Nat) (hi : i < l.length) : valD (l.take (i + 1)) = valD (l.take i) * 10 + ((l.getD i 0).toNat - 48) := by
  unfold valD
  rw [← take_next l i hi, List.foldl_append]
  simp [List.getD, List.getElem?_eq_getElem hi]
theorem valD_lt : ∀ (l : List UInt8), (∀ x ∈ l, digB x = true) → ∀ i, i ≤ l.length → valD (l.take i) < 10 ^ i
  | l, h, 0, _ => by simp [valD]
  | l, h, i + 1, hi => by
    have ih := valD_lt l h i (by omega)
    rw [valD_step l i (by omega), Nat.pow_succ]
    have hd := h _ (List.getElem_mem (show i < l.length by omega))
    have : (l.getD i 0).toNat - 48 ≤ 9 := by
      unfold digB at hd
      simp at hd
      simp [List.getD, List.getElem?_eq_getElem (show i < l.length by omega)]
      omega
    omega
def numD (n : Nat) (l : List UInt8) : Int × Bool :=
  if decide ((l.length : Int) < 1) || decide ((n : Int) < (l.length : Int)) || (decide ((1 : Int) < (l.length : Int)) && decide (l.getD 0 0 = 48)) then (0, false)
  else if l.all digB then ((valD l : Nat), true) else (0, false)
theorem dig_wrap {x : UInt8} (h : digB x = true) : IntKind.u8.wrap (((x.toNat : Nat) : Int) - 48) = ((x.toNat - 48 : Nat) : Int) ∧ x.toNat - 48 ≤ 9 ∧ 48 ≤ x.toNat := by
  unfold digB at h
  simp at h
  refine ⟨?_, by omega, by omega⟩
  rw [show ((x.toNat : Nat) : Int) - 48 = ((x.toNat - 48 : Nat) : Int) by omega]
  unfold IntKind.wrap
  simp [IntKind.bits, IntKind.signed]
  omega
theorem dig_no {l : List UInt8} {i : Nat} (hi : i < l.length) (h : digB (l.getD i 0) = false) : l.all digB = false := by
  rw [List.all_eq_false]
  refine ⟨l[i], List.getElem_mem hi, ?_⟩
  rw [show l.getD i 0 = l[i] by simp [List.getD, List.getElem?_eq_getElem hi]] at h
  simp [h]
theorem dig_all {l : List UInt8} (h : ∀ j, j < l.length → digB (l.getD j 0) = true) : l.all digB = true := by
  rw [List.all_eq_true]
  intro x hx
  obtain ⟨j, hj, rfl⟩ := List.getElem_of_mem hx
  have := h j hj
  rwa [show l.getD j 0 = l[j] by simp [List.getD, List.getElem?_eq_getElem hj]] at this
theorem valD_lt' (l : List UInt8) (i : Nat) (hi : i ≤ l.length) (h : ∀ j, j < i → digB (l.getD j 0) = true) : valD (l.take i) < 10 ^ i := by
  have := valD_lt (l.take i) (fun x hx => by
    obtain ⟨j, hj, rfl⟩ := List.getElem_of_mem hx
    have hj' : j < i := by simp at hj; omega
    have := h j hj'
    rw [List.getElem_take]
    rwa [show l.getD j 0 = l[j]'(by omega) by simp [List.getD, List.getElem?_eq_getElem (show j < l.length by omega)]] at this) i (by simp; omega)
  rwa [List.take_take, Nat.min_self] at this
theorem spec_l2Number (l : List UInt8) (n : Nat) (hn : n ≤ 9) (hl : l.length ≤ 1048576) : PCalls Tryz.prog 68 [.string (bs l), .int .i64 n] (.tuple #[.int .i64 (numD n l).1, .bool (numD n l).2]) := by
  obtain ⟨R, hR⟩ : ∃ R : Int × Bool, R = numD n l := ⟨_, rfl⟩
  rw [← hR]
  have hRH : Hid (R = numD n l) := hR
  clear hR
  by_cases h1 : (l.length : Int) < 1
  · have : R = (0, false) := by rw [hRH.out]; unfold numD; simp only [h1, decide_true, Bool.true_or, if_true]
    subst this
    refine PCalls.val (by first | exact islE_im _ _ | exact Enc.val_im _ _ | exact Im.flat _ rfl | (repeat' (first | exact Im.nilL | refine Im.consL ?_ ?_ | exact Im.flat _ rfl | exact islE_im _ _ | exact Enc.val_im _ _ | refine Im.aggL ?_ | refine Im.tupleL ?_ | refine Im.isl ?_))) ?_; refine ACalls.enter (n := 52) (rs := [.tmp 4, .tmp 5]) Tryz.func68 rfl rfl rfl (by kernel_rfl) (by kernel_rfl) (by kernel_rfl) (Nat.le_of_ble_eq_true rfl) ?_
    repeat' (first | (refine KV.run _ ?_) | (refine KQ.run _ ?_) | (refine KT.run _ ?_) | (refine AWp.seqH fun KC => ?_) | (refine AWp.block ?_) | (refine AWp.region ?_) | (refine mops_step0 rfl rfl fun KC => ?_) | (refine mops_step1 rfl fun KC => ?_) | (refine mops_step2 rfl fun KC => ?_) | (refine AWp.ret ?_) | (refine AWp.skip ?_) | (refine AWp.exit ?_) | (refine aops_callH rfl fun kC => ?_) | (refine qops_callH rfl fun kC => ?_) | (refine AWp.condB ?_) | (simp only [bse, wk, tys, storeH_ptr, Nat.reduceEqDiff, ↓reduceIte, reduceCtorEq, Nat.reduceAdd, Nat.reduceLeDiff, Int.reduceBEq, Int.reduceLT, Int.reduceLE, Int.reduceEq, ne_eq, not_false_eq_true, Nat.reduceMul, Int.reduceToNat, Int.toNat_zero, *]) | (refine condK_bool (fun hb => ?_) (fun hb => ?_) <;> ((try simp only [Bool.not_eq_true', Bool.not_eq_false'] at hb) <;> (try (have hbe := of_decide_eq_true hb)) <;> (try (have hbe := eq_of_beq hb)))) | (refine aops_partB ?_) | (refine qops_partB ?_))
  by_cases h2 : (n : Int) < (l.length : Int)
  · have : R = (0, false) := by rw [hRH.out]; unfold numD; simp only [h2, decide_true, Bool.true_or, Bool.or_true, if_true]
    subst this
    refine PCalls.val (by first | exact islE_im _ _ | exact Enc.val_im _ _ | exact Im.flat _ rfl | (repeat' (first | exact Im.nilL | refine Im.consL ?_ ?_ | exact Im.flat _ rfl | exact islE_im _ _ | exact Enc.val_im _ _ | refine Im.aggL ?_ | refine Im.tupleL ?_ | refine Im.isl ?_))) ?_; refine ACalls.enter (n := 52) (rs := [.tmp 4, .tmp 5]) Tryz.func68 rfl rfl rfl (by kernel_rfl) (by kernel_rfl) (by kernel_rfl) (Nat.le_of_ble_eq_true rfl) ?_
    repeat' (first | (refine KV.run _ ?_) | (refine KQ.run _ ?_) | (refine KT.run _ ?_) | (refine AWp.seqH fun KC => ?_) | (refine AWp.block ?_) | (refine AWp.region ?_) | (refine mops_step0 rfl rfl fun KC => ?_) | (refine mops_step1 rfl fun KC => ?_) | (refine mops_step2 rfl fun KC => ?_) | (refine AWp.ret ?_) | (refine AWp.skip ?_) | (refine AWp.exit ?_) | (refine aops_callH rfl fun kC => ?_) | (refine qops_callH rfl fun kC => ?_) | (refine AWp.condB ?_) | (simp only [bse, wk, tys, storeH_ptr, Nat.reduceEqDiff, ↓reduceIte, reduceCtorEq, Nat.reduceAdd, Nat.reduceLeDiff, Int.reduceBEq, Int.reduceLT, Int.reduceLE, Int.reduceEq, ne_eq, not_false_eq_true, Nat.reduceMul, Int.reduceToNat, Int.toNat_zero, *]) | (refine condK_bool (fun hb => ?_) (fun hb => ?_) <;> ((try simp only [Bool.not_eq_true', Bool.not_eq_false'] at hb) <;> (try (have hbe := of_decide_eq_true hb)) <;> (try (have hbe := eq_of_beq hb)))) | (refine aops_partB ?_) | (refine qops_partB ?_))
  have hu := u8_eq (l.getD 0 0) 48
  by_cases h3 : (1 : Int) < (l.length : Int) ∧ l.getD 0 0 = 48
  · have : R = (0, false) := by rw [hRH.out]; unfold numD; simp only [h3.1, h3.2, decide_true, Bool.true_and, Bool.or_true, if_true]
    subst this
    obtain ⟨h4, h5⟩ := h3
    have hu' : (((l.getD 0 0).toNat : Int) == 48) = true := by rw [show ((48 : Int)) = (((48 : UInt8).toNat : Nat) : Int) from rfl, hu]; exact decide_eq_true h5
    have h0l : (0 : Int) < (l.length : Int) := by omega
    clear hu h5
    refine PCalls.val (by first | exact islE_im _ _ | exact Enc.val_im _ _ | exact Im.flat _ rfl | (repeat' (first | exact Im.nilL | refine Im.consL ?_ ?_ | exact Im.flat _ rfl | exact islE_im _ _ | exact Enc.val_im _ _ | refine Im.aggL ?_ | refine Im.tupleL ?_ | refine Im.isl ?_))) ?_; refine ACalls.enter (n := 52) (rs := [.tmp 4, .tmp 5]) Tryz.func68 rfl rfl rfl (by kernel_rfl) (by kernel_rfl) (by kernel_rfl) (Nat.le_of_ble_eq_true rfl) ?_
    repeat' (first | (refine KV.run _ ?_) | (refine KQ.run _ ?_) | (refine KT.run _ ?_) | (refine AWp.seqH fun KC => ?_) | (refine AWp.block ?_) | (refine AWp.region ?_) | (refine mops_step0 rfl rfl fun KC => ?_) | (refine mops_step1 rfl fun KC => ?_) | (refine mops_step2 rfl fun KC => ?_) | (refine AWp.ret ?_) | (refine AWp.skip ?_) | (refine AWp.exit ?_) | (refine aops_callH rfl fun kC => ?_) | (refine qops_callH rfl fun kC => ?_) | (refine AWp.condB ?_) | (simp only [bse, wk, tys, storeH_ptr, Nat.reduceEqDiff, ↓reduceIte, reduceCtorEq, Nat.reduceAdd, Nat.reduceLeDiff, Int.reduceBEq, Int.reduceLT, Int.reduceLE, Int.reduceEq, ne_eq, not_false_eq_true, Nat.reduceMul, Int.reduceToNat, Int.toNat_zero, *]) | (refine condK_bool (fun hb => ?_) (fun hb => ?_) <;> ((try simp only [Bool.not_eq_true', Bool.not_eq_false'] at hb) <;> (try (have hbe := of_decide_eq_true hb)) <;> (try (have hbe := eq_of_beq hb)))) | (refine aops_partB ?_) | (refine qops_partB ?_))
  have hRall : Hid (R = if l.all digB then (((valD l : Nat) : Int), true) else (0, false)) := by
    unfold Hid
    rw [hRH.out]
    unfold numD
    rw [if_neg]
    simp only [Bool.or_eq_true, Bool.and_eq_true, decide_eq_true_eq, not_or]
    exact ⟨⟨h1, h2⟩, h3⟩
  clear hRH
  have h0l : (0 : Int) < (l.length : Int) := by omega
  have hln : l.length ≤ 9 := by omega
  by_cases h4 : (1 : Int) < (l.length : Int)
  · have hz : (((l.getD 0 0).toNat : Int) == 48) = false := by
      rw [show ((48 : Int)) = (((48 : UInt8).toNat : Nat) : Int) from rfl, hu]
      exact decide_eq_false fun e => h3 ⟨h4, e⟩
    clear hu h3
    refine PCalls.val (by first | exact islE_im _ _ | exact Enc.val_im _ _ | exact Im.flat _ rfl | (repeat' (first | exact Im.nilL | refine Im.consL ?_ ?_ | exact Im.flat _ rfl | exact islE_im _ _ | exact Enc.val_im _ _ | refine Im.aggL ?_ | refine Im.tupleL ?_ | refine Im.isl ?_))) ?_; refine ACalls.enter (n := 52) (rs := [.tmp 4, .tmp 5]) Tryz.func68 rfl rfl rfl (by kernel_rfl) (by kernel_rfl) (by kernel_rfl) (Nat.le_of_ble_eq_true rfl) ?_
    repeat' (first | (refine KV.run _ ?_) | (refine KQ.run _ ?_) | (refine KT.run _ ?_) | (refine AWp.seqH fun KC => ?_) | (refine AWp.block ?_) | (refine AWp.region ?_) | (refine mops_step0 rfl rfl fun KC => ?_) | (refine mops_step1 rfl fun KC => ?_) | (refine mops_step2 rfl fun KC => ?_) | (refine AWp.ret ?_) | (refine AWp.skip ?_) | (refine AWp.exit ?_) | (refine aops_callH rfl fun kC => ?_) | (refine qops_callH rfl fun kC => ?_) | (refine AWp.condB ?_) | (simp only [bse, wk, tys, storeH_ptr, Nat.reduceEqDiff, ↓reduceIte, reduceCtorEq, Nat.reduceAdd, Nat.reduceLeDiff, Int.reduceBEq, Int.reduceLT, Int.reduceLE, Int.reduceEq, ne_eq, not_false_eq_true, Nat.reduceMul, Int.reduceToNat, Int.toNat_zero, *]) | (refine condK_bool (fun hb => ?_) (fun hb => ?_) <;> ((try simp only [Bool.not_eq_true', Bool.not_eq_false'] at hb) <;> (try (have hbe := of_decide_eq_true hb)) <;> (try (have hbe := eq_of_beq hb)))) | (refine aops_partB ?_) | (refine qops_partB ?_))
    refine AWp.loopH [27, 28, 29, 30, 33, 34, 35, 36, 37, 38, 39, 40, 41, 42, 4, 5, 43, 44, 45, 46, 47, 48, 49, 50, 6, 31, 32, 7] (fun m e' H' => ∃ i : Nat, i ≤ l.length ∧ m = l.length - i ∧ e' 7 = .int .i64 i ∧ e' 6 = .int .i64 ((valD (l.take i) : Nat) : Int) ∧ H' = [] ∧ Hid (∀ j, j < i → digB (l.getD j 0) = true)) l.length ⟨0, by omega, by omega, rfl, rfl, rfl, fun j hj => by omega⟩ ?_
    rintro m e' H' hA ⟨i, hi, rfl, e7, e6, rfl, hF⟩ hJ
    have a0 := hA 0 rfl; try simp only [bse, wk, tys, storeH_ptr, Nat.reduceEqDiff, ↓reduceIte, reduceCtorEq, Nat.reduceAdd, Nat.reduceLeDiff, Int.reduceBEq, Int.reduceLT, Int.reduceLE, Int.reduceEq, ne_eq, not_false_eq_true, Nat.reduceMul] at a0; clear hA
    by_cases hlt : i < l.length
    · have hlt' : (i : Int) < (l.length : Int) := by omega
      have h0i : (0 : Int) ≤ (i : Int) := by omega
      have hw := wr_succ (k := i) (by omega)
      cases hd : digB (l.getD i 0) with
      | false =>
        have hRR : R = (0, false) := by rw [hRall.out, dig_no hlt hd]; rfl
        subst hRR
        by_cases hx : (((l.getD i 0).toNat : Nat) : Int) < 48
        · clear hd hRall hF
          repeat' (first | (refine KV.run _ ?_) | (refine KQ.run _ ?_) | (refine KT.run _ ?_) | (refine AWp.seqH fun KC => ?_) | (refine AWp.block ?_) | (refine AWp.region ?_) | (refine mops_step0 rfl rfl fun KC => ?_) | (refine mops_step1 rfl fun KC => ?_) | (refine mops_step2 rfl fun KC => ?_) | (refine AWp.ret ?_) | (refine AWp.skip ?_) | (refine AWp.exit ?_) | (refine aops_callH rfl fun kC => ?_) | (refine qops_callH rfl fun kC => ?_) | (refine AWp.condB ?_) | (simp only [bse, wk, tys, storeH_ptr, Nat.reduceEqDiff, ↓reduceIte, reduceCtorEq, Nat.reduceAdd, Nat.reduceLeDiff, Int.reduceBEq, Int.reduceLT, Int.reduceLE, Int.reduceEq, ne_eq, not_false_eq_true, Nat.reduceMul, Int.reduceToNat, Int.toNat_zero, *]) | (refine condK_bool (fun hb => ?_) (fun hb => ?_) <;> ((try simp only [Bool.not_eq_true', Bool.not_eq_false'] at hb) <;> (try (have hbe := of_decide_eq_true hb)) <;> (try (have hbe := eq_of_beq hb)))) | (refine aops_partB ?_) | (refine qops_partB ?_))
        · have hx2 : (57 : Int) < (((l.getD i 0).toNat : Nat) : Int) := by
            unfold digB at hd
            rw [decide_eq_false hx] at hd
            simpa using hd
          clear hd hRall hF
          repeat' (first | (refine KV.run _ ?_) | (refine KQ.run _ ?_) | (refine KT.run _ ?_) | (refine AWp.seqH fun KC => ?_) | (refine AWp.block ?_) | (refine AWp.region ?_) | (refine mops_step0 rfl rfl fun KC => ?_) | (refine mops_step1 rfl fun KC => ?_) | (refine mops_step2 rfl fun KC => ?_) | (refine AWp.ret ?_) | (refine AWp.skip ?_) | (refine AWp.exit ?_) | (refine aops_callH rfl fun kC => ?_) | (refine qops_callH rfl fun kC => ?_) | (refine AWp.condB ?_) | (simp only [bse, wk, tys, storeH_ptr, Nat.reduceEqDiff, ↓reduceIte, reduceCtorEq, Nat.reduceAdd, Nat.reduceLeDiff, Int.reduceBEq, Int.reduceLT, Int.reduceLE, Int.reduceEq, ne_eq, not_false_eq_true, Nat.reduceMul, Int.reduceToNat, Int.toNat_zero, *]) | (refine condK_bool (fun hb => ?_) (fun hb => ?_) <;> ((try simp only [Bool.not_eq_true', Bool.not_eq_false'] at hb) <;> (try (have hbe := of_decide_eq_true hb)) <;> (try (have hbe := eq_of_beq hb)))) | (refine aops_partB ?_) | (refine qops_partB ?_))
      | true =>
        obtain ⟨hs1, hs2, hs3⟩ := dig_wrap hd
        have hx1 : ¬ (((l.getD i 0).toNat : Nat) : Int) < 48 := by omega
        have hx2 : ¬ (57 : Int) < (((l.getD i 0).toNat : Nat) : Int) := by unfold digB at hd; simp at hd; simp; omega
        have hv := valD_lt' l i hi hF.out
        have hp : 10 ^ i ≤ 10 ^ 9 := Nat.pow_le_pow_right (by omega) (by omega)
        have hst : Hid (∀ j, j < i + 1 → digB (l.getD j 0) = true) := fun j hj => by
          by_cases e : j = i
          · rw [e]; exact hd
          · exact hF.out j (by omega)
        have hvs := valD_step l i hlt
        obtain ⟨v, hV⟩ : ∃ v, v = valD (l.take i) := ⟨_, rfl⟩
        rw [← hV] at hv hvs e6
        clear hV
        have hm : IntKind.i64.wrap ((v : Int) * 10) = ((v * 10 : Nat) : Int) := by rw [wr] <;> omega
        have hcv : IntKind.i64.wrap (((l.getD i 0).toNat - 48 : Nat) : Int) = (((l.getD i 0).toNat - 48 : Nat) : Int) := by rw [wr] <;> omega
        have ha : IntKind.i64.wrap (((v * 10 : Nat) : Int) + (((l.getD i 0).toNat - 48 : Nat) : Int)) = ((valD (l.take (i + 1)) : Nat) : Int) := by rw [hvs, wr] <;> omega
        clear hd hF hv hp hvs hs2 hs3
        repeat' (first | (refine KV.run _ ?_) | (refine KQ.run _ ?_) | (refine KT.run _ ?_) | (refine AWp.seqH fun KC => ?_) | (refine AWp.block ?_) | (refine AWp.region ?_) | (refine mops_step0 rfl rfl fun KC => ?_) | (refine mops_step1 rfl fun KC => ?_) | (refine mops_step2 rfl fun KC => ?_) | (refine AWp.ret ?_) | (refine AWp.skip ?_) | (refine AWp.exit ?_) | (refine aops_callH rfl fun kC => ?_) | (refine qops_callH rfl fun kC => ?_) | (refine AWp.condB ?_) | (simp only [bse, wk, tys, storeH_ptr, Nat.reduceEqDiff, ↓reduceIte, reduceCtorEq, Nat.reduceAdd, Nat.reduceLeDiff, Int.reduceBEq, Int.reduceLT, Int.reduceLE, Int.reduceEq, ne_eq, not_false_eq_true, Nat.reduceMul, Int.reduceToNat, Int.toNat_zero, *]) | (refine condK_bool (fun hb => ?_) (fun hb => ?_) <;> ((try simp only [Bool.not_eq_true', Bool.not_eq_false'] at hb) <;> (try (have hbe := of_decide_eq_true hb)) <;> (try (have hbe := eq_of_beq hb)))) | (refine aops_partB ?_) | (refine qops_partB ?_))
        exact hJ.out _ _ ⟨l.length - (i + 1), by omega, i + 1, by omega, rfl, rfl, rfl, rfl, hst⟩ (by repeat (first | exact Agree.refl _ _ | assumption | refine Agree.put ?_ rfl _))
    · have hlt' : ¬ (i : Int) < (l.length : Int) := by omega
      have hRR : R = (((valD (l.take i) : Nat) : Int), true) := by
        have hil : i = l.length := by omega
        subst hil
        rw [hRall.out, dig_all hF.out, List.take_length]
        rfl
      subst hRR
      clear hRall hF
      repeat' (first | (refine KV.run _ ?_) | (refine KQ.run _ ?_) | (refine KT.run _ ?_) | (refine AWp.seqH fun KC => ?_) | (refine AWp.block ?_) | (refine AWp.region ?_) | (refine mops_step0 rfl rfl fun KC => ?_) | (refine mops_step1 rfl fun KC => ?_) | (refine mops_step2 rfl fun KC => ?_) | (refine AWp.ret ?_) | (refine AWp.skip ?_) | (refine AWp.exit ?_) | (refine aops_callH rfl fun kC => ?_) | (refine qops_callH rfl fun kC => ?_) | (refine AWp.condB ?_) | (simp only [bse, wk, tys, storeH_ptr, Nat.reduceEqDiff, ↓reduceIte, reduceCtorEq, Nat.reduceAdd, Nat.reduceLeDiff, Int.reduceBEq, Int.reduceLT, Int.reduceLE, Int.reduceEq, ne_eq, not_false_eq_true, Nat.reduceMul, Int.reduceToNat, Int.toNat_zero, *]) | (refine condK_bool (fun hb => ?_) (fun hb => ?_) <;> ((try simp only [Bool.not_eq_true', Bool.not_eq_false'] at hb) <;> (try (have hbe := of_decide_eq_true hb)) <;> (try (have hbe := eq_of_beq hb)))) | (refine aops_partB ?_) | (refine qops_partB ?_))
  · clear hu h3
    refine PCalls.val (by first | exact islE_im _ _ | exact Enc.val_im _ _ | exact Im.flat _ rfl | (repeat' (first | exact Im.nilL | refine Im.consL ?_ ?_ | exact Im.flat _ rfl | exact islE_im _ _ | exact Enc.val_im _ _ | refine Im.aggL ?_ | refine Im.tupleL ?_ | refine Im.isl ?_))) ?_; refine ACalls.enter (n := 52) (rs := [.tmp 4, .tmp 5]) Tryz.func68 rfl rfl rfl (by kernel_rfl) (by kernel_rfl) (by kernel_rfl) (Nat.le_of_ble_eq_true rfl) ?_
    repeat' (first | (refine KV.run _ ?_) | (refine KQ.run _ ?_) | (refine KT.run _ ?_) | (refine AWp.seqH fun KC => ?_) | (refine AWp.block ?_) | (refine AWp.region ?_) | (refine mops_step0 rfl rfl fun KC => ?_) | (refine mops_step1 rfl fun KC => ?_) | (refine mops_step2 rfl fun KC => ?_) | (refine AWp.ret ?_) | (refine AWp.skip ?_) | (refine AWp.exit ?_) | (refine aops_callH rfl fun kC => ?_) | (refine qops_callH rfl fun kC => ?_) | (refine AWp.condB ?_) | (simp only [bse, wk, tys, storeH_ptr, Nat.reduceEqDiff, ↓reduceIte, reduceCtorEq, Nat.reduceAdd, Nat.reduceLeDiff, Int.reduceBEq, Int.reduceLT, Int.reduceLE, Int.reduceEq, ne_eq, not_false_eq_true, Nat.reduceMul, Int.reduceToNat, Int.toNat_zero, *]) | (refine condK_bool (fun hb => ?_) (fun hb => ?_) <;> ((try simp only [Bool.not_eq_true', Bool.not_eq_false'] at hb) <;> (try (have hbe := of_decide_eq_true hb)) <;> (try (have hbe := eq_of_beq hb)))) | (refine aops_partB ?_) | (refine qops_partB ?_))
    refine AWp.loopH [27, 28, 29, 30, 33, 34, 35, 36, 37, 38, 39, 40, 41, 42, 4, 5, 43, 44, 45, 46, 47, 48, 49, 50, 6, 31, 32, 7] (fun m e' H' => ∃ i : Nat, i ≤ l.length ∧ m = l.length - i ∧ e' 7 = .int .i64 i ∧ e' 6 = .int .i64 ((valD (l.take i) : Nat) : Int) ∧ H' = [] ∧ Hid (∀ j, j < i → digB (l.getD j 0) = true)) l.length ⟨0, by omega, by omega, rfl, rfl, rfl, fun j hj => by omega⟩ ?_
    rintro m e' H' hA ⟨i, hi, rfl, e7, e6, rfl, hF⟩ hJ
    have a0 := hA 0 rfl; try simp only [bse, wk, tys, storeH_ptr, Nat.reduceEqDiff, ↓reduceIte, reduceCtorEq, Nat.reduceAdd, Nat.reduceLeDiff, Int.reduceBEq, Int.reduceLT, Int.reduceLE, Int.reduceEq, ne_eq, not_false_eq_true, Nat.reduceMul] at a0; clear hA
    by_cases hlt : i < l.length
    · have hlt' : (i : Int) < (l.length : Int) := by omega
      have h0i : (0 : Int) ≤ (i : Int) := by omega
      have hw := wr_succ (k := i) (by omega)
      cases hd : digB (l.getD i 0) with
      | false =>
        have hRR : R = (0, false) := by rw [hRall.out, dig_no hlt hd]; rfl
        subst hRR
        by_cases hx : (((l.getD i 0).toNat : Nat) : Int) < 48
        · clear hd hRall hF
          repeat' (first | (refine KV.run _ ?_) | (refine KQ.run _ ?_) | (refine KT.run _ ?_) | (refine AWp.seqH fun KC => ?_) | (refine AWp.block ?_) | (refine AWp.region ?_) | (refine mops_step0 rfl rfl fun KC => ?_) | (refine mops_step1 rfl fun KC => ?_) | (refine mops_step2 rfl fun KC => ?_) | (refine AWp.ret ?_) | (refine AWp.skip ?_) | (refine AWp.exit ?_) | (refine aops_callH rfl fun kC => ?_) | (refine qops_callH rfl fun kC => ?_) | (refine AWp.condB ?_) | (simp only [bse, wk, tys, storeH_ptr, Nat.reduceEqDiff, ↓reduceIte, reduceCtorEq, Nat.reduceAdd, Nat.reduceLeDiff, Int.reduceBEq, Int.reduceLT, Int.reduceLE, Int.reduceEq, ne_eq, not_false_eq_true, Nat.reduceMul, Int.reduceToNat, Int.toNat_zero, *]) | (refine condK_bool (fun hb => ?_) (fun hb => ?_) <;> ((try simp only [Bool.not_eq_true', Bool.not_eq_false'] at hb) <;> (try (have hbe := of_decide_eq_true hb)) <;> (try (have hbe := eq_of_beq hb)))) | (refine aops_partB ?_) | (refine qops_partB ?_))
        · have hx2 : (57 : Int) < (((l.getD i 0).toNat : Nat) : Int) := by
            unfold digB at hd
            rw [decide_eq_false hx] at hd
            simpa using hd
          clear hd hRall hF
          repeat' (first | (refine KV.run _ ?_) | (refine KQ.run _ ?_) | (refine KT.run _ ?_) | (refine AWp.seqH fun KC => ?_) | (refine AWp.block ?_) | (refine AWp.region ?_) | (refine mops_step0 rfl rfl fun KC => ?_) | (refine mops_step1 rfl fun KC => ?_) | (refine mops_step2 rfl fun KC => ?_) | (refine AWp.ret ?_) | (refine AWp.skip ?_) | (refine AWp.exit ?_) | (refine aops_callH rfl fun kC => ?_) | (refine qops_callH rfl fun kC => ?_) | (refine AWp.condB ?_) | (simp only [bse, wk, tys, storeH_ptr, Nat.reduceEqDiff, ↓reduceIte, reduceCtorEq, Nat.reduceAdd, Nat.reduceLeDiff, Int.reduceBEq, Int.reduceLT, Int.reduceLE, Int.reduceEq, ne_eq, not_false_eq_true, Nat.reduceMul, Int.reduceToNat, Int.toNat_zero, *]) | (refine condK_bool (fun hb => ?_) (fun hb => ?_) <;> ((try simp only [Bool.not_eq_true', Bool.not_eq_false'] at hb) <;> (try (have hbe := of_decide_eq_true hb)) <;> (try (have hbe := eq_of_beq hb)))) | (refine aops_partB ?_) | (refine qops_partB ?_))
      | true =>
        obtain ⟨hs1, hs2, hs3⟩ := dig_wrap hd
        have hx1 : ¬ (((l.getD i 0).toNat : Nat) : Int) < 48 := by omega
        have hx2 : ¬ (57 : Int) < (((l.getD i 0).toNat : Nat) : Int) := by unfold digB at hd; simp at hd; simp; omega
        have hv := valD_lt' l i hi hF.out
        have hp : 10 ^ i ≤ 10 ^ 9 := Nat.pow_le_pow_right (by omega) (by omega)
        have hst : Hid (∀ j, j < i + 1 → digB (l.getD j 0) = true) := fun j hj => by
          by_cases e : j = i
          · rw [e]; exact hd
          · exact hF.out j (by omega)
        have hvs := valD_step l i hlt
        obtain ⟨v, hV⟩ : ∃ v, v = valD (l.take i) := ⟨_, rfl⟩
        rw [← hV] at hv hvs e6
        clear hV
        have hm : IntKind.i64.wrap ((v : Int) * 10) = ((v * 10 : Nat) : Int) := by rw [wr] <;> omega
        have hcv : IntKind.i64.wrap (((l.getD i 0).toNat - 48 : Nat) : Int) = (((l.getD i 0).toNat - 48 : Nat) : Int) := by rw [wr] <;> omega
        have ha : IntKind.i64.wrap (((v * 10 : Nat) : Int) + (((l.getD i 0).toNat - 48 : Nat) : Int)) = ((valD (l.take (i + 1)) : Nat) : Int) := by rw [hvs, wr] <;> omega
        clear hd hF hv hp hvs hs2 hs3
        repeat' (first | (refine KV.run _ ?_) | (refine KQ.run _ ?_) | (refine KT.run _ ?_) | (refine AWp.seqH fun KC => ?_) | (refine AWp.block ?_) | (refine AWp.region ?_) | (refine mops_step0 rfl rfl fun KC => ?_) | (refine mops_step1 rfl fun KC => ?_) | (refine mops_step2 rfl fun KC => ?_) | (refine AWp.ret ?_) | (refine AWp.skip ?_) | (refine AWp.exit ?_) | (refine aops_callH rfl fun kC => ?_) | (refine qops_callH rfl fun kC => ?_) | (refine AWp.condB ?_) | (simp only [bse, wk, tys, storeH_ptr, Nat.reduceEqDiff, ↓reduceIte, reduceCtorEq, Nat.reduceAdd, Nat.reduceLeDiff, Int.reduceBEq, Int.reduceLT, Int.reduceLE, Int.reduceEq, ne_eq, not_false_eq_true, Nat.reduceMul, Int.reduceToNat, Int.toNat_zero, *]) | (refine condK_bool (fun hb => ?_) (fun hb => ?_) <;> ((try simp only [Bool.not_eq_true', Bool.not_eq_false'] at hb) <;> (try (have hbe := of_decide_eq_true hb)) <;> (try (have hbe := eq_of_beq hb)))) | (refine aops_partB ?_) | (refine qops_partB ?_))
        exact hJ.out _ _ ⟨l.length - (i + 1), by omega, i + 1, by omega, rfl, rfl, rfl, rfl, hst⟩ (by repeat (first | exact Agree.refl _ _ | assumption | refine Agree.put ?_ rfl _))
    · have hlt' : ¬ (i : Int) < (l.length : Int) := by omega
      have hRR : R = (((valD (l.take i) : Nat) : Int), true) := by
        have hil : i = l.length := by omega
        subst hil
        rw [hRall.out, dig_all hF.out, List.take_length]
        rfl
      subst hRR
      clear hRall hF
      repeat' (first | (refine KV.run _ ?_) | (refine KQ.run _ ?_) | (refine KT.run _ ?_) | (refine AWp.seqH fun KC => ?_) | (refine AWp.block ?_) | (refine AWp.region ?_) | (refine mops_step0 rfl rfl fun KC => ?_) | (refine mops_step1 rfl fun KC => ?_) | (refine mops_step2 rfl fun KC => ?_) | (refine AWp.ret ?_) | (refine AWp.skip ?_) | (refine AWp.exit ?_) | (refine aops_callH rfl fun kC => ?_) | (refine qops_callH rfl fun kC => ?_) | (refine AWp.condB ?_) | (simp only [bse, wk, tys, storeH_ptr, Nat.reduceEqDiff, ↓reduceIte, reduceCtorEq, Nat.reduceAdd, Nat.reduceLeDiff, Int.reduceBEq, Int.reduceLT, Int.reduceLE, Int.reduceEq, ne_eq, not_false_eq_true, Nat.reduceMul, Int.reduceToNat, Int.toNat_zero, *]) | (refine condK_bool (fun hb => ?_) (fun hb => ?_) <;> ((try simp only [Bool.not_eq_true', Bool.not_eq_false'] at hb) <;> (try (have hbe := of_decide_eq_true hb)) <;> (try (have hbe := eq_of_beq hb)))) | (refine aops_partB ?_) | (refine qops_partB ?_))
end Go.BM
