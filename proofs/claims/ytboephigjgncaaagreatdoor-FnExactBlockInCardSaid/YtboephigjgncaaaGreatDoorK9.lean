/- A block read out of a text: both sides read the same. -/
import Derived.Test.YtboephigjgncaaaGreatDoorK6
import Derived.Test.YtboephigjgncaaaGreatDoorK8
set_option linter.unusedVariables false
set_option linter.unusedSimpArgs false
set_option maxRecDepth 100000
set_option maxHeartbeats 4000000
namespace Go.BM
open Go.Proofs Go.RowKit
attribute [local irreducible] ACalls AWp aops qops optK optP cK gateA condK mops qcallK PCalls loadV fldV idxV lenV slV storeH binS
theorem dd1 {u : Nat} (h : u < 10) : Lib.decDigits u = [UInt8.ofNat (48 + u)] := by rw [Lib.decDigits, dif_pos h]
theorem dd2 {u : Nat} (h : 10 ≤ u) (h2 : u < 100) : Lib.decDigits u = [UInt8.ofNat (48 + u / 10), UInt8.ofNat (48 + u % 10)] := by
  rw [Lib.decDigits, dif_neg (by omega), dd1 (by omega)]
  rfl
theorem dd3 {u : Nat} (h : 100 ≤ u) (h2 : u < 1000) : Lib.decDigits u = [UInt8.ofNat (48 + u / 100), UInt8.ofNat (48 + u / 10 % 10), UInt8.ofNat (48 + u % 10)] := by
  rw [Lib.decDigits, dif_neg (by omega), dd2 (by omega) (by omega), show u / 10 / 10 = u / 100 by omega]
  rfl
theorem ofNat_nat {n : Nat} (h : n < 256) : (UInt8.ofNat n).toNat = n := by
  rw [UInt8.toNat_ofNat']
  exact Nat.mod_eq_of_lt h
theorem dig_of {d : Nat} (h : d < 10) : digB (UInt8.ofNat (48 + d)) = true ∧ (UInt8.ofNat (48 + d)).toNat - 48 = d := by
  have e := ofNat_nat (n := 48 + d) (by omega)
  refine ⟨?_, by omega⟩
  unfold digB
  rw [e]
  simp
  omega
theorem u8_of_nat {x : UInt8} {n : Nat} (h : x.toNat = n) : x = UInt8.ofNat n := by
  rw [← h]
  simp
theorem numD1 {n d : Nat} {x : UInt8} (hn : 1 ≤ n) (hx : digB x = true) (hd : x.toNat - 48 = d) : numD n [x] = (((d : Nat) : Int), true) := by
  unfold numD
  rw [if_neg (by simp; omega)]
  simp [hx, valD, hd]
theorem numD2 {n d e : Nat} {x y : UInt8} (hn : 2 ≤ n) (hz : x ≠ 48) (hx : digB x = true) (hy : digB y = true) (hd : x.toNat - 48 = d) (he : y.toNat - 48 = e) : numD n [x, y] = (((d * 10 + e : Nat) : Int), true) := by
  unfold numD
  rw [if_neg (by simp [hz]; omega)]
  simp [hx, hy, valD, hd, he]
theorem numD3 {n d e f : Nat} {x y z : UInt8} (hn : 3 ≤ n) (hz : x ≠ 48) (hx : digB x = true) (hy : digB y = true) (hw : digB z = true) (hd : x.toNat - 48 = d) (he : y.toNat - 48 = e) (hf : z.toNat - 48 = f) : numD n [x, y, z] = ((((d * 10 + e) * 10 + f : Nat) : Int), true) := by
  unfold numD
  rw [if_neg (by simp [hz]; omega)]
  simp [hx, hy, hw, valD, hd, he, hf]
theorem not0 {d : Nat} (h : 1 ≤ d) (h2 : d < 10) : UInt8.ofNat (48 + d) ≠ 48 := fun e => by
  have h3 := ofNat_nat (n := 48 + d) (by omega)
  rw [e] at h3
  have : (48 : UInt8).toNat = 48 := rfl
  omega
/-- Digits of a number below a thousand, read back. -/
theorem numD_dec {u n : Nat} (hu : u < 10 ^ n) (hn : 1 ≤ n) (h3 : n ≤ 3) : numD n (Lib.decDigits u) = ((u : Int), true) := by
  have h1000 : u < 1000 := Nat.lt_of_lt_of_le hu (by
    have : n = 1 ∨ n = 2 ∨ n = 3 := by omega
    rcases this with rfl | rfl | rfl <;> decide)
  by_cases a : u < 10
  · rw [dd1 a]
    obtain ⟨h1, h2⟩ := dig_of a
    exact numD1 hn h1 h2
  · by_cases b : u < 100
    · rw [dd2 (by omega) b]
      have hn2 : 2 ≤ n := by
        rcases Nat.lt_or_ge n 2 with h | h
        · have : n = 1 := by omega
          subst this
          omega
        · exact h
      obtain ⟨h1, h2⟩ := dig_of (d := u / 10) (by omega)
      obtain ⟨g1, g2⟩ := dig_of (d := u % 10) (by omega)
      rw [numD2 hn2 (not0 (by omega) (by omega)) h1 g1 h2 g2, show u / 10 * 10 + u % 10 = u by omega]
    · rw [dd3 (by omega) h1000]
      have hn3 : n = 3 := by
        have : n = 1 ∨ n = 2 ∨ n = 3 := by omega
        rcases this with rfl | rfl | rfl
        · omega
        · omega
        · rfl
      subst hn3
      obtain ⟨h1, h2⟩ := dig_of (d := u / 100) (by omega)
      obtain ⟨g1, g2⟩ := dig_of (d := u / 10 % 10) (by omega)
      obtain ⟨k1, k2⟩ := dig_of (d := u % 10) (by omega)
      rw [numD3 (by omega) (not0 (by omega) (by omega)) h1 g1 k1 h2 g2 k2, show (u / 100 * 10 + u / 10 % 10) * 10 + u % 10 = u by omega]
/-- What is read as a number of few digits is that number's digits. -/
theorem numD_ok {n : Nat} {w : List UInt8} (h3 : n ≤ 3) (h : (numD n w).2 = true) : ∃ u : Nat, (numD n w).1 = u ∧ w = Lib.decDigits u ∧ u < 1000 := by
  unfold numD at h ⊢
  by_cases hc : (decide ((w.length : Int) < 1) || decide ((n : Int) < (w.length : Int)) || (decide ((1 : Int) < (w.length : Int)) && decide (w.getD 0 0 = 48))) = true
  · rw [if_pos hc] at h; simp at h
  · rw [if_neg hc] at h ⊢
    by_cases hd : w.all digB = true
    · rw [if_pos hd]
      simp only [Bool.or_eq_true, Bool.and_eq_true, decide_eq_true_eq, not_or, not_and] at hc
      obtain ⟨⟨c1, c2⟩, c3⟩ := hc
      have db : ∀ x : UInt8, digB x = true → ∃ d, d < 10 ∧ x = UInt8.ofNat (48 + d) ∧ x.toNat - 48 = d := fun x hx => by
        obtain ⟨_, h1, h2⟩ := dig_wrap hx
        exact ⟨x.toNat - 48, by omega, u8_of_nat (by omega), rfl⟩
      match w, c1, c2, c3, hd with
      | [], c1, _, _, _ => simp at c1
      | [a], _, _, _, hd =>
        simp at hd
        obtain ⟨d, h1, h2, h4⟩ := db a hd
        refine ⟨d, by simp [valD, h4], ?_, by omega⟩
        rw [dd1 h1, h2]
      | [a, b], _, _, c3, hd =>
        simp at hd
        obtain ⟨d, h1, h2, h4⟩ := db a hd.1
        obtain ⟨e, g1, g2, g4⟩ := db b hd.2
        have hz : d ≠ 0 := fun hz => by
          subst hz
          exact c3 (by simp) (by simp [h2])
        refine ⟨d * 10 + e, by simp [valD, h4, g4], ?_, by omega⟩
        rw [dd2 (by omega) (by omega), h2, g2, show (d * 10 + e) / 10 = d by omega, show (d * 10 + e) % 10 = e by omega]
      | [a, b, c], _, _, c3, hd =>
        simp at hd
        obtain ⟨d, h1, h2, h4⟩ := db a hd.1
        obtain ⟨e, g1, g2, g4⟩ := db b hd.2.1
        obtain ⟨f, k1, k2, k4⟩ := db c hd.2.2
        have hz : d ≠ 0 := fun hz => by
          subst hz
          exact c3 (by simp) (by simp [h2])
        refine ⟨(d * 10 + e) * 10 + f, by simp [valD, h4, g4, k4], ?_, by omega⟩
        rw [dd3 (by omega) (by omega), h2, g2, k2, show ((d * 10 + e) * 10 + f) / 100 = d by omega, show ((d * 10 + e) * 10 + f) / 10 % 10 = e by omega, show ((d * 10 + e) * 10 + f) % 10 = f by omega]
      | _ :: _ :: _ :: _ :: _, _, c2, _, _ => simp at c2; omega
    · rw [if_neg hd] at h; simp at h
theorem pu_step {M acc d : Nat} {r : List UInt8} (hd : d < 10) (ha : acc ≤ 1000) (hM : 20000 ≤ M) : Lib.parseUintM M acc (UInt8.ofNat (48 + d) :: r) = Lib.parseUintM M (acc * 10 + d) r := by
  have e := ofNat_nat (n := 48 + d) (by omega)
  rw [Lib.parseUintM, e, if_pos (by omega), if_neg (by omega), if_neg (by omega), show 48 + d - 48 = d by omega]
theorem pi_of {d u : Nat} {r : List UInt8} (hd : d < 10) (hu : u < 1000) (h : Lib.parseUintM (2 ^ 64 - 1) 0 (UInt8.ofNat (48 + d) :: r) = .ok u) : Lib.parseIntB 64 (UInt8.ofNat (48 + d) :: r) = .ok (u : Int) := by
  have e := ofNat_nat (n := 48 + d) (by omega)
  unfold Lib.parseIntB
  simp only [e]
  rw [if_neg (by omega)]
  unfold Lib.parseUintB
  rw [if_neg (by simp), h]
  dsimp only
  rw [if_neg (by simp; omega), if_neg (by omega), if_neg (by omega)]
theorem parse_dec {u : Nat} (h : u < 1000) : Lib.parseIntB 64 (Lib.decDigits u) = .ok (u : Int) := by
  by_cases a : u < 10
  · rw [dd1 a]
    refine pi_of a h ?_
    rw [pu_step a (by omega) (by decide)]
    simp [Lib.parseUintM]
  · by_cases b : u < 100
    · rw [dd2 (by omega) b]
      refine pi_of (by omega) h ?_
      rw [pu_step (by omega) (by omega) (by decide), pu_step (by omega) (by omega) (by decide)]
      simp [Lib.parseUintM]
      omega
    · rw [dd3 (by omega) h]
      refine pi_of (by omega) h ?_
      rw [pu_step (by omega) (by omega) (by decide), pu_step (by omega) (by omega) (by decide), pu_step (by omega) (by omega) (by decide)]
      simp [Lib.parseUintM]
      omega
theorem numL_dec {u : Nat} (h : u < 1000) : numL (Lib.decDigits u) = (u : Int) := by
  unfold numL numF
  rw [bs_list, parse_dec h]
  dsimp only
  rw [if_pos]
  refine ⟨?_, ?_⟩
  · rw [bs_size]; have := dec_len (u := u) (by omega); omega
  · rw [itoa_nat (by omega)]; simp
theorem numL_inv {w : List UInt8} (hn : 0 ≤ numL w) : w = Lib.decDigits (numL w).toNat := by
  unfold numL numF at hn ⊢
  rw [bs_list] at hn ⊢
  cases hp : Lib.parseIntB 64 w with
  | ok v =>
    rw [hp] at hn
    dsimp only at hn ⊢
    by_cases hc : (bs w).size ≤ 10 ∧ Lib.itoa v = w
    · rw [if_pos hc] at hn ⊢
      rw [itoa_nat hn] at hc
      exact hc.2.symm
    · rw [if_neg hc] at hn; omega
  | range => rw [hp] at hn; dsimp only at hn; omega
  | _ => rw [hp] at hn; dsimp only at hn; omega
theorem join_cut (c : UInt8) : ∀ l : List UInt8, Lib.join (cutL c l) [c] = l
  | [] => by simp [cutL, Lib.join_one]
  | x :: l => by
    have ih := join_cut c l
    unfold cutL
    split
    · rename_i hx
      subst hx
      cases hq : cutL x l with
      | nil => exact absurd hq (cutL_ne x l)
      | cons w ws =>
        rw [hq] at ih
        rw [Lib.join_cons] at ih ⊢
        unfold Lib.joinTail at ih ⊢
        simp at ih ⊢
        exact ih
    · split
      · rename_i hq; exact absurd hq (cutL_ne c l)
      · rename_i w ws hq
        rw [hq] at ih
        rw [Lib.join_cons] at ih ⊢
        rw [List.cons_append, ih]
def bN (w1 w2 w3 w4 : List UInt8) : TBlock := ⟨numL w1, numL w2, numL w3, if w4 = [45] then [] else (cutL 43 w4).map numL⟩
theorem itoa_numL {w : List UInt8} (h : 0 ≤ numL w) : Lib.itoa (numL w) = w := by rw [itoa_nat h]; exact (numL_inv h).symm
theorem nD {n : Nat} {w : List UInt8} (h0 : 0 ≤ numL w) (h1 : (numL w).toNat < 10 ^ n) (hn : 1 ≤ n) (h3 : n ≤ 3) : numD n w = (numL w, true) := by
  have e := numL_inv h0
  have := numD_dec h1 hn h3
  rw [← e] at this
  rw [this, Int.toNat_of_nonneg h0]
theorem parA {w1 w2 w3 w4 : List UInt8} (h : blockFault (bN w1 w2 w3 w4) = 0) : parX w1 w2 w3 w4 = bN w1 w2 w3 w4 ∧ parOk w1 w2 w3 w4 = true := by
  obtain ⟨h1, h2, h3, h4, h5⟩ := bf_bounds h
  unfold bN at h1 h2 h3 h4 h5 ⊢
  dsimp only at h1 h2 h3 h4 h5
  have e1 := nD (n := 2) (w := w1) (by omega) (by simp; omega) (by omega) (by omega)
  have e2 := nD (n := 2) (w := w2) (by omega) (by simp; omega) (by omega) (by omega)
  have e3 := nD (n := 3) (w := w3) (by omega) (by simp; omega) (by omega) (by omega)
  unfold parX parOk
  rw [e1, e2, e3]
  by_cases h45 : w4 = [45]
  · simp [h45]
  · rw [if_neg h45] at h5
    rw [if_neg h45, if_neg h45, if_neg h45]
    have hw : ∀ w ∈ cutL 43 w4, numD 2 w = (numL w, true) := fun w hw => by
      have := h5 (numL w) (List.mem_map.2 ⟨w, hw, rfl⟩)
      exact nD (by omega) (by simp; omega) (by omega) (by omega)
    refine ⟨?_, ?_⟩
    · congr 1
      exact List.map_congr_left fun w hm => by rw [hw w hm]
    · simp only [Bool.true_and]
      rw [List.all_eq_true]
      intro w hm
      rw [hw w hm]
theorem parBk {w1 w2 w3 w4 : List UInt8} (h : parOk w1 w2 w3 w4 = true) : parX w1 w2 w3 w4 = bN w1 w2 w3 w4 := by
  unfold parOk at h
  simp only [Bool.and_eq_true] at h
  obtain ⟨⟨⟨h1, h2⟩, h3⟩, h4⟩ := h
  have fw : ∀ {n : Nat} {w : List UInt8}, n ≤ 3 → (numD n w).2 = true → (numD n w).1 = numL w := fun {n w} hn hd => by
    obtain ⟨u, e1, e2, e3⟩ := numD_ok hn hd
    rw [e1]
    conv => rhs; rw [e2]
    exact (numL_dec e3).symm
  unfold parX bN
  rw [fw (by omega) h1, fw (by omega) h2, fw (by omega) h3]
  by_cases h45 : w4 = [45]
  · rw [if_pos h45, if_pos h45]
  · rw [if_neg h45] at h4
    rw [if_neg h45, if_neg h45]
    congr 1
    exact List.map_congr_left fun w hm => fw (by omega) (List.all_eq_true.1 h4 w hm)
theorem parC {t w1 w2 w3 w4 : List UInt8} (hf : blockFault (bN w1 w2 w3 w4) = 0) (ht : cutL 32 t = [[98, 108, 111, 99, 107], w1, w2, w3, w4]) : blockT (bN w1 w2 w3 w4) = t := by
  obtain ⟨h1, h2, h3, h4, h5⟩ := bf_bounds hf
  have hj := join_cut 32 t
  rw [ht] at hj
  unfold bN at h1 h2 h3 h5 ⊢
  dsimp only at h1 h2 h3 h5
  unfold blockT joinI
  dsimp only [List.map]
  rw [itoa_numL (w := w1) (by omega), itoa_numL (w := w2) (by omega), itoa_numL (w := w3) (by omega)]
  have htx : (if (if w4 = [45] then ([] : List Int) else (cutL 43 w4).map numL).length = 0 then ([45] : List UInt8) else Lib.join ((if w4 = [45] then ([] : List Int) else (cutL 43 w4).map numL).map Lib.itoa) [43]) = w4 := by
    by_cases h45 : w4 = [45]
    · simp [h45]
    · rw [if_neg h45] at h5
      rw [if_neg h45, if_neg, List.map_map]
      · have : (cutL 43 w4).map (Lib.itoa ∘ numL) = cutL 43 w4 := by
          conv => rhs; rw [← List.map_id (cutL 43 w4)]
          exact List.map_congr_left fun w hm => itoa_numL (by have := h5 (numL w) (List.mem_map.2 ⟨w, hm, rfl⟩); omega)
        rw [this, join_cut]
      · rw [List.length_map]
        have := List.length_pos_iff.2 (cutL_ne 43 w4)
        omega
  rw [htx, ← hj]
  rw [Lib.join_cons, Lib.join_cons]
  unfold Lib.joinTail
  simp
theorem parD {t w0 w1 w2 w3 w4 : List UInt8} {b : TBlock} (h : blockT b = t) (ht : cutL 32 t = [w0, w1, w2, w3, w4]) : w0 = [98, 108, 111, 99, 107] := by
  unfold blockT at h
  rw [← h] at ht
  have e : ([98, 108, 111, 99, 107, 32] ++ joinI 32 [b.prev, b.height, b.miner] ++ [32] ++ (if b.txs.length = 0 then [45] else joinI 43 b.txs) : List UInt8) = [98, 108, 111, 99, 107] ++ 32 :: (joinI 32 [b.prev, b.height, b.miner] ++ [32] ++ (if b.txs.length = 0 then [45] else joinI 43 b.txs)) := by simp
  rw [e, cutL_app 32 _ _ (by decide)] at ht
  injection ht with h1 _
  exact h1.symm
/-- Both sides read the same block. -/
theorem par_read (t : List UInt8) (h3 : t.length ≤ 300) : (parB t).2 = (readB t).2 ∧ ((parB t).2 = true → (parB t).1 = (readB t).1) := by
  by_cases h5 : ∃ w0 w1 w2 w3 w4, cutL 32 t = [w0, w1, w2, w3, w4]
  · obtain ⟨w0, w1, w2, w3, w4, hw⟩ := h5
    have e1 : parB t = if w0 = [98, 108, 111, 99, 107] then (parX w1 w2 w3 w4, parOk w1 w2 w3 w4 && (blockFault (parX w1 w2 w3 w4) == 0)) else (blkZ, false) := by unfold parB; rw [hw]
    have e2 : readB t = if blockFault (bN w1 w2 w3 w4) = 0 ∧ blockT (bN w1 w2 w3 w4) = t then (bN w1 w2 w3 w4, true) else (blk0, false) := by
      unfold readB
      rw [hw]
      dsimp only
      rw [if_neg (by omega)]
      rfl
    rw [e1, e2]
    by_cases hr : blockFault (bN w1 w2 w3 w4) = 0 ∧ blockT (bN w1 w2 w3 w4) = t
    · have h0 := parD hr.2 hw
      obtain ⟨a1, a2⟩ := parA hr.1
      rw [if_pos hr, if_pos h0, a1, a2, hr.1]
      exact ⟨rfl, fun _ => rfl⟩
    · rw [if_neg hr]
      have hn : ¬ (w0 = [98, 108, 111, 99, 107] ∧ parOk w1 w2 w3 w4 = true ∧ blockFault (parX w1 w2 w3 w4) = 0) := fun ⟨c1, c2, c3⟩ => by
        have e := parBk c2
        rw [e] at c3
        subst c1
        exact hr ⟨c3, parC c3 hw⟩
      have hz : (if w0 = [98, 108, 111, 99, 107] then (parX w1 w2 w3 w4, parOk w1 w2 w3 w4 && (blockFault (parX w1 w2 w3 w4) == 0)) else (blkZ, false)).2 = false := by
        by_cases c1 : w0 = [98, 108, 111, 99, 107]
        · rw [if_pos c1]
          dsimp only
          cases c2 : parOk w1 w2 w3 w4 with
          | false => rfl
          | true =>
            simp only [Bool.true_and]
            cases c3 : (blockFault (parX w1 w2 w3 w4) == 0) with
            | false => rfl
            | true => exact absurd ⟨c1, c2, eq_of_beq c3⟩ hn
        · rw [if_neg c1]
      rw [hz]
      exact ⟨rfl, fun h => by cases h⟩
  · have e1 : parB t = (blkZ, false) := by
      unfold parB
      split
      · rename_i he; exact absurd ⟨_, _, _, _, _, he⟩ h5
      · rfl
    have e2 : readB t = (blk0, false) := by
      unfold readB
      split
      · rename_i he; exact absurd ⟨_, _, _, _, _, he⟩ h5
      · rfl
    rw [e1, e2]
    exact ⟨rfl, fun h => by cases h⟩
end Go.BM
