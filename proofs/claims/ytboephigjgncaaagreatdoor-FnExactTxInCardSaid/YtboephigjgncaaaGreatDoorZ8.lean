/- Packed: K29, K30, K31, K32, K7, K33, K8, K23, K24. -/
import Derived.Test.YtboephigjgncaaaGreatDoorZ3
import Derived.Test.YtboephigjgncaaaGreatDoorZ4
import Derived.Test.YtboephigjgncaaaGreatDoorZ5
import Derived.Test.YtboephigjgncaaaGreatDoorZ6
import Derived.Test.YtboephigjgncaaaGreatDoorZ7
/- A transaction, read out of a text: plain functions, facts on lists of words. -/
set_option linter.unusedVariables false
set_option linter.unusedSimpArgs false
set_option maxRecDepth 100000
set_option maxHeartbeats 4000000
namespace Go.BM
open Go.Proofs Go.RowKit
attribute [local irreducible] ACalls AWp aops qops optK optP cK gateA condK mops qcallK PCalls loadV fldV idxV lenV slV storeH binS
def tx0 : TTx := ⟨0, 0, [], []⟩
def rdRef (w : List UInt8) : TRef := ⟨numL (cutAt 58 w).1, numL (cutAt 58 w).2.1⟩
def rdOuts : List (List UInt8) → Option (List TOut)
  | [] => some []
  | w :: ws => if (readR 95 (cutAt 61 w).2.1).2 then (rdOuts ws).map (⟨numL (cutAt 61 w).1, (readR 95 (cutAt 61 w).2.1).1⟩ :: ·) else none
/-- A transaction that was read is right, and its text is the text. -/
def chkT (t : List UInt8) (x : TTx) : TTx × Bool := if txFault x = 0 then (x, !decide (300 < (txT x).length) && (txT x == t)) else (tx0, false)
def kindK (w : List UInt8) : Int := if w = [112, 97, 121] then 0 else if w = [106, 111, 105, 110] then 1 else if w = [108, 101, 97, 118, 101] then 2 else -1
def rdFin (t : List UInt8) (k m : Int) (ins : List TRef) (o : Option (List TOut)) : TTx × Bool := match o with
  | some outs => chkT t ⟨k, m, ins, outs⟩
  | none => (tx0, false)
def rdBody (t : List UInt8) (k m : Int) (ws : List (List UInt8)) : TTx × Bool := match ws with
  | wi :: wo => if wo.length < 1 ∨ 4 < wo.length then (tx0, false) else rdFin t k m ((cutL 43 wi).map rdRef) (rdOuts wo)
  | [] => (tx0, false)
def readT (t : List UInt8) : TTx × Bool :=
  if 300 < t.length then (tx0, false) else match cutL 32 t with
  | w0 :: ws => if kindK w0 = 0 then rdBody t 0 0 ws else if kindK w0 < 0 then (tx0, false) else match ws with
    | wm :: ws' => rdBody t (kindK w0) (numL wm) ws'
    | [] => (tx0, false)
  | [] => (tx0, false)
theorem rdOuts_step (ws : List (List UInt8)) (k : Nat) (hk : k < ws.length) : rdOuts (ws.drop k) = if (readR 95 (cutAt 61 ws[k]).2.1).2 then (rdOuts (ws.drop (k + 1))).map (⟨numL (cutAt 61 ws[k]).1, (readR 95 (cutAt 61 ws[k]).2.1).1⟩ :: ·) else none := by
  rw [List.drop_eq_getElem_cons hk]
  rfl
theorem chkR_ok {c : UInt8} {t : List UInt8} {r : TRule} (h : (chkR c t r).2 = true) : ruleFault (chkR c t r).1.keys (chkR c t r).1.need (chkR c t r).1.after = 0 := by
  unfold chkR at h ⊢
  by_cases hc : ruleFault r.keys r.need r.after = 0 ∧ ruleT c r = t
  · rw [if_pos hc]; exact hc.1
  · rw [if_neg hc] at h; cases h
theorem readR_ok {c : UInt8} {t : List UInt8} (h : (readR c t).2 = true) : ruleFault (readR c t).1.keys (readR c t).1.need (readR c t).1.after = 0 := by
  unfold readR at h ⊢
  by_cases h3 : 300 < t.length
  · rw [if_pos h3] at h; cases h
  · rw [if_neg h3] at h ⊢
    split at h
    · exact chkR_ok h
    · exact chkR_ok h
    · cases h
theorem kindWords_p : PCalls Tryz.prog 83 [] (islE strE [bs [112, 97, 121], bs [106, 111, 105, 110], bs [108, 101, 97, 118, 101]]) := by
  have h : ACalls Tryz.prog 0 83 [] [] _ := impl_kindWords []
  refine PCalls.of (ACalls.mono h ?_)
  rintro d N ⟨rfl, rfl⟩
  exact Bor.sbE (E := strE) (ys := [bs [112, 97, 121], bs [106, 111, 105, 110], bs [108, 101, 97, 118, 101]]) rfl (fun _ => rfl) rfl
theorem findK (w : List UInt8) : findI (fun x => bs w == x) [bs [112, 97, 121], bs [106, 111, 105, 110], bs [108, 101, 97, 118, 101]] = kindK w := by
  have e1 : (bs w == bs [112, 97, 121]) = (w == [112, 97, 121]) := bs_beq _ _
  have e2 : (bs w == bs [106, 111, 105, 110]) = (w == [106, 111, 105, 110]) := bs_beq _ _
  have e3 : (bs w == bs [108, 101, 97, 118, 101]) = (w == [108, 101, 97, 118, 101]) := bs_beq _ _
  unfold kindK
  by_cases h1 : w = [112, 97, 121]
  · rw [if_pos h1]; simp [findI, e1, h1]
  · by_cases h2 : w = [106, 111, 105, 110]
    · rw [if_neg h1, if_pos h2]; simp [findI, e1, e2, h2]
    · by_cases h3 : w = [108, 101, 97, 118, 101]
      · rw [if_neg h1, if_neg h2, if_pos h3]; simp [findI, e1, e2, e3, h3]
      · rw [if_neg h1, if_neg h2, if_neg h3]; simp [findI, e1, e2, e3, h1, h2, h3]
theorem kind_index (w : List UInt8) : PCalls Tryz.prog 70 [islE strE [bs [112, 97, 121], bs [106, 111, 105, 110], bs [108, 101, 97, 118, 101]], .string (bs w)] (.int .i64 (kindK w)) := by
  rw [← findK]
  exact lib_Index_str _ _ (by simp)
theorem ix_cons (H : AH) (a : ByteArray) (l : List ByteArray) : idxV Tryz.prog H 22 (islE strE (a :: l)) (.int .i64 0) = some (ip (.string a :: strE.flat l)) :=
  idxV_isl (P := Tryz.prog) (H := H) (n := l.length + 1) (k := 0) (kd := .i64) (cs := strE.flat (a :: l)) elZ22 (by omega)
theorem sl_cons (H : AH) (a : ByteArray) (l : List ByteArray) : slV Tryz.prog H 22 (islE strE (a :: l)) (some (.int .i64 1)) none none = some (islE strE l) := by
  have := slV_lo (P := Tryz.prog) (H := H) (E := strE) (xs := a :: l) 22 .i64 1
  rw [elZ22] at this
  simpa [sliE, strE_sz] using this
theorem ld_str (H : AH) (w : ByteArray) (l : List Value) : loadV Tryz.prog H 9 (ip (.string w :: l)) = some (.string w) := load_ip1 (P := Tryz.prog) (H := H) (T := 9) (p := 0) (cs := .string w :: l) lay9 rfl
theorem own_tx0 {H : AH} (b : Bool) : ∃ S : List Nat, S.Nodup ∧ OwnL false H [.tuple #[.agg #[.int .i64 0, .int .i64 0, .slice none 0 0, .slice none 0 0], .bool b]] [.tuple #[txE.val tx0, .bool b]] S :=
  ⟨[], by simp, OwnL.tupL (l := [.agg #[.int .i64 0, .int .i64 0, .slice none 0 0, .slice none 0 0], .bool b]) (l' := [txE.val tx0, .bool b]) (OwnL.consL (OwnL.aggL (l := [.int .i64 0, .int .i64 0, .slice none 0 0, .slice none 0 0]) (l' := [.int .i64 0, .int .i64 0, islE refE [], islE outE []]) (.flat rfl (.flat rfl (.nils (.nils .nil))))) (.flat rfl .nil))⟩
theorem get_kb {p M : AH} {a b : Blk} (hp : p.length = 2) : (p ++ (M ++ [a, b]))[M.length + 2]? = some a := by
  rw [List.getElem?_append_right (by omega), List.getElem?_append_right (by omega), show M.length + 2 - p.length - M.length = 0 by omega]
  rfl
end Go.BM
/- A transaction, read out of a text, without a member: the program. -/
set_option linter.unusedVariables false
set_option linter.unusedSimpArgs false
set_option maxRecDepth 100000
set_option maxHeartbeats 4000000
namespace Go.BM
open Go.Proofs Go.RowKit
attribute [local irreducible] ACalls AWp aops qops optK optP cK gateA condK mops qcallK PCalls loadV fldV idxV lenV slV storeH binS
theorem readTxP (t w0 wi : List UInt8) (wo : List (List UInt8)) (k : Int) (hw : cutL 32 t = w0 :: wi :: wo) (hk : kindK w0 = k) (hk1 : ¬ k < 0) (hk0 : (k == 0) = true) (ho : 1 ≤ wo.length ∧ wo.length ≤ 4) (ht : t.length ≤ 300) : NCalls Tryz.prog 56 [.string (bs t)] (.tuple #[txE.val (rdFin t k 0 ((cutL 43 wi).map rdRef) (rdOuts wo)).1, .bool (rdFin t k 0 ((cutL 43 wi).map rdRef) (rdOuts wo)).2]) := by
  have hsp := lib_SplitC t 32 (by omega)
  have hlt := cutL_mem 32 t
  rw [hw] at hlt
  have hlo : ∀ w ∈ wo, w.length ≤ 300 := fun w hw => by have := hlt w (by simp [hw]); omega
  have hli : wi.length ≤ 300 := by have := hlt wi (by simp); omega
  have hW : cutW 32 t = bs w0 :: bs wi :: wo.map bs := by unfold cutW; rw [hw]; rfl
  rw [hW] at hsp
  have hki := kind_index w0
  rw [hk] at hki
  have hsi := lib_SplitC wi 43 (by omega)
  have hnl := cutL_len 43 wi
  have hil := cutL_mem 43 wi
  have hcw : cutW 43 wi = (cutL 43 wi).map bs := rfl
  rw [hcw] at hsi
  generalize cutL 43 wi = ws at hsi hnl hil ⊢
  have hnw : ws.length ≤ 301 := by omega
  have hiw : ∀ w ∈ ws, w.length ≤ 300 := fun w hw => by have := hil w hw; omega
  have hml : (ws.map bs).length = ws.length := List.length_map ..
  obtain ⟨W2, hW2⟩ : ∃ W2, W2 = wo.map bs := ⟨_, rfl⟩
  have hml2 : W2.length = wo.length := by rw [hW2, List.length_map]
  have hwo : ∀ (j : Nat) (h : j < wo.length) (h2 : j < W2.length), W2[j] = bs wo[j] := fun j h h2 => by subst hW2; exact List.getElem_map ..
  rw [← hW2] at hsp
  obtain ⟨W1, hW1⟩ : ∃ W1, W1 = bs wi :: W2 := ⟨_, rfl⟩
  rw [← hW1] at hsp
  have ix1 : ∀ H : AH, idxV Tryz.prog H 22 (islE strE W1) (.int .i64 0) = some (ip (.string (bs wi) :: strE.flat W2)) := fun H => by rw [hW1]; exact ix_cons H _ _
  have sl1 : ∀ H : AH, slV Tryz.prog H 22 (islE strE W1) (some (.int .i64 1)) none none = some (islE strE W2) := fun H => by rw [hW1]; exact sl_cons H _ _
  have q1 : ¬ ((W1.length : Int) < 2) := by rw [hW1]; simp; omega
  have q2 : ¬ ((5 : Int) < (W1.length : Int)) := by rw [hW1]; simp; omega
  obtain ⟨W0, hW0⟩ : ∃ W0, W0 = bs w0 :: W1 := ⟨_, rfl⟩
  rw [← hW0] at hsp
  have ix0 : ∀ H : AH, idxV Tryz.prog H 22 (islE strE W0) (.int .i64 0) = some (ip (.string (bs w0) :: strE.flat W1)) := fun H => by rw [hW0]; exact ix_cons H _ _
  have sl0 : ∀ H : AH, slV Tryz.prog H 22 (islE strE W0) (some (.int .i64 1)) none none = some (islE strE W1) := fun H => by rw [hW0]; exact sl_cons H _ _
  have ld := ld_str
  have kw := kindWords_p
  have h300 : ¬ (300 : Int) < (t.length : Int) := by omega
  clear hW hlt hw hW0 hW1 hW2 hk hil hnl hcw ht
  obtain ⟨ins, hins⟩ : ∃ ins, ins = ws.map rdRef := ⟨_, rfl⟩
  rw [← hins]
  have hinl : ins.length ≤ 301 := by rw [hins, List.length_map]; exact hnw
  have hinsH : Hid _ := hins
  clear hins
  obtain ⟨R, hR⟩ : ∃ R, R = rdFin t k 0 ins (rdOuts wo) := ⟨_, rfl⟩
  rw [← hR]
  have hR0 : Hid (R = rdFin t k 0 ins ((rdOuts (wo.drop 0)).map (([] : List TOut) ++ ·))) := by unfold Hid; rw [hR]; simp
  clear hR
  refine NCalls.of ?_; refine ACalls.enter (n := 125) (rs := [.cell 2 45, .tmp 3]) Tryz.func56 rfl rfl rfl (by kernel_rfl) (by kernel_rfl) (by kernel_rfl) (Nat.le_of_ble_eq_true rfl) ?_
  repeat' (first | (refine ACalls.start ?_; first | (refine ACalls.ofJi (hsp) rfl ?_)) | (refine KV.run _ ?_) | (refine KT.run _ ?_) | (refine AWp.seqH fun KC => ?_) | (refine AWp.region ?_) | (refine aops_callH rfl fun kC => ?_) | (simp only [bse, wk, tys, storeH_ptr, Nat.reduceEqDiff, ↓reduceIte, reduceCtorEq, Nat.reduceAdd, Nat.reduceLeDiff, Int.reduceBEq, Int.reduceLT, Int.reduceLE, Int.reduceEq, ne_eq, not_false_eq_true, Nat.reduceMul, refE_val, refE_sz, outE_val, outE_sz, txE_val, txE_sz, ruleE_val, ruleE_sz, *]))
  refine AWp.mixedT (id := 2) (.cons 1 0 (.cons 2 0 (.cons 3 0 (.alt 0 1 (.alt 4 1 (.cons 5 0 (.cons 6 1 (.cons 7 2 .nil))) (.cons 6 1 (.cons 4 1 (.cons 5 0 (.cons 7 2 .nil))))) (.cons 6 1 (.cons 0 1 (.cons 4 1 (.cons 5 0 (.cons 7 2 .nil))))))))) (by kernel_rfl) (by kernel_rfl) ?_
  refine mopsT_abs fun e0 he0 => ?_
  have r4 := congrFun he0 4
  try simp only [bse, wk, tys, storeH_ptr, Nat.reduceEqDiff, ↓reduceIte, reduceCtorEq, Nat.reduceAdd, Nat.reduceLeDiff, Int.reduceBEq, Int.reduceLT, Int.reduceLE, Int.reduceEq, ne_eq, not_false_eq_true, Nat.reduceMul, refE_val, refE_sz, outE_val, outE_sz, txE_val, txE_sz, ruleE_val, ruleE_sz] at r4
  have he1 : Hid _ := he0
  clear he0
  apply mopsT_cut
  case h1 =>
    repeat' (first | (refine mopsT_step0 rfl rfl fun KC => ?_) | (refine mopsT_step1 rfl fun KC => ?_) | (refine mopsT_step2 rfl fun KC => ?_) | (refine mopsT_alt1 rfl (fun KC => ?_) ?_) | (refine ACalls.start ?_; first | (refine ACalls.ofJi (kw) rfl ?_) | (refine ACalls.ofJi (hki) rfl ?_)) | (refine KV.run _ ?_) | (refine KT.run _ ?_) | (refine aops_callH rfl fun kC => ?_) | (simp only [bse, wk, tys, storeH_ptr, Nat.reduceEqDiff, ↓reduceIte, reduceCtorEq, Nat.reduceAdd, Nat.reduceLeDiff, Int.reduceBEq, Int.reduceLT, Int.reduceLE, Int.reduceEq, ne_eq, not_false_eq_true, Nat.reduceMul, refE_val, refE_sz, outE_val, outE_sz, txE_val, txE_sz, ruleE_val, ruleE_sz, *]))
    all_goals (first | exact ⟨rfl, rfl⟩ | (refine AtEH.mk (funext fun q => env_pt 5 q rfl fun hq5 => ?_) rfl; simp only [put, hq5, if_false]))
  have he2 := he1.out
  clear he1
  subst he2
  clear kw hki ix0
  repeat' (first | (refine ACalls.start ?_; first | (refine ACalls.ofJi (hsi) rfl ?_)) | (refine KV.run _ ?_) | (refine KT.run _ ?_) | (refine AWp.seqH fun KC => ?_) | (refine AWp.block ?_) | (refine AWp.region ?_) | (refine AWp.skip ?_) | (refine aops_callH rfl fun kC => ?_) | (refine AWp.condB ?_) | (simp only [bse, wk, tys, storeH_ptr, Nat.reduceEqDiff, ↓reduceIte, reduceCtorEq, Nat.reduceAdd, Nat.reduceLeDiff, Int.reduceBEq, Int.reduceLT, Int.reduceLE, Int.reduceEq, ne_eq, not_false_eq_true, Nat.reduceMul, refE_val, refE_sz, outE_val, outE_sz, txE_val, txE_sz, ruleE_val, ruleE_sz, *]))
  refine AWp.loopH [66, 67, 68, 7, 70, 71, 69, 72, 73, 74, 8, 9, 10, 75, 76, 77, 78, 79, 80, 81, 82, 83, 84, 85, 65] (fun m' e' H' => ∃ (j : Nat) (a : Option Addr) (n v : Nat) (S : List Nat) (M : AH), j ≤ ws.length ∧ m' = ws.length - j ∧ e' 65 = .int .i64 j ∧ H' = ⟨45, 0, [.int .i64 0, .int .i64 0, .slice none 0 0, .slice none 0 0], 0, true⟩ :: ⟨45, 0, [.int .i64 k, .int .i64 0, .slice a n v, .slice none 0 0], 0, true⟩ :: M ∧ Hid (SlO 2 128 refE M a n v ((ws.take j).map rdRef) S)) ws.length ⟨0, none, 0, 0, [], [], by omega, by omega, rfl, rfl, SlO.nil _ _ _ _⟩ ?_
  rintro m' e' H' hA ⟨j, a, n, v, S, M, hj, rfl, ecnt, rfl, hM⟩ hJ
  have a0 := hA 0 rfl; have a2 := hA 2 rfl; have a3 := hA 3 rfl; have a4 := hA 4 rfl; have a5 := hA 5 rfl; have a63 := hA 63 rfl; have a64 := hA 64 rfl; try simp only [bse, wk, tys, storeH_ptr, Nat.reduceEqDiff, ↓reduceIte, reduceCtorEq, Nat.reduceAdd, Nat.reduceLeDiff, Int.reduceBEq, Int.reduceLT, Int.reduceLE, Int.reduceEq, ne_eq, not_false_eq_true, Nat.reduceMul] at a0 a2 a3 a4 a5 a63 a64; clear hA
  by_cases hlt : j < ws.length
  · have hlt' : (j : Int) < (ws.length : Int) := by omega
    have hw := wr_succ (k := j) (by omega)
    have hkb : (ws.map bs)[j]'(by omega) = bs ws[j] := List.getElem_map ..
    have hwj := hiw ws[j] (List.getElem_mem hlt)
    have hcl := cutAt_len 58 ws[j]
    have hc := lib_Cut ws[j] 58 (by omega)
    have n1 : PCalls Tryz.prog 74 [.string (bs (cutAt 58 ws[j]).1)] (.int .i64 (numL (cutAt 58 ws[j]).1)) := lib_number _ (by rw [bs_size]; omega)
    have n2 : PCalls Tryz.prog 74 [.string (bs (cutAt 58 ws[j]).2.1)] (.int .i64 (numL (cutAt 58 ws[j]).2.1)) := lib_number _ (by rw [bs_size]; omega)
    have hst := map_step rdRef ws j hlt
    have hrd : rdRef ws[j] = ⟨numL (cutAt 58 ws[j]).1, numL (cutAt 58 ws[j]).2.1⟩ := rfl
    rw [hrd] at hst
    have hstH : Hid _ := hst
    clear hst hrd hcl hwj
    generalize numL (cutAt 58 ws[j]).1 = x at n1 hstH
    generalize numL (cutAt 58 ws[j]).2.1 = y at n2 hstH
    generalize (cutAt 58 ws[j]).1 = u1 at n1 hc
    generalize (cutAt 58 ws[j]).2.1 = u2 at n2 hc
    generalize (cutAt 58 ws[j]).2.2 = u3 at hc
    have hyl : ((ws.take j).map rdRef).length = j := by rw [List.length_map, List.length_take]; omega
    obtain ⟨a', n', v', S', M', hap, hM', _, _, _⟩ := hM.out.app (P := Tryz.prog) (B := 0) [⟨45, 0, [.int .i64 0, .int .i64 0, .slice none 0 0, .slice none 0 0], 0, true⟩, ⟨45, 0, [.int .i64 k, .int .i64 0, .slice a n v, .slice none 0 0], 0, true⟩] rfl (M.length + 1 + 1) (by omega) elZ42 elZ42 zOk42 (Nat.zero_le _) (⟨x, y⟩ : TRef) (ds := [.int .i64 x, .int .i64 y]) (U := []) (fun _ _ => .flat rfl (.flat rfl .nil)) List.nodup_nil (by simp) (by simp) (by omega) (by omega)
    simp only [refE_sz, List.cons_append, List.nil_append] at hap
    rw [← hstH.out] at hM'
    have hM2 : Hid _ := hM'
    clear hM' hM hyl hstH
    repeat' (first | (refine AWp.mixed (id := 15) [(0, 0), (1, 0), (2, 0), (4, 0), (3, 1), (5, 1), (6, 0), (7, 1), (8, 2), (9, 0), (10, 2)] (by kernel_rfl) (by kernel_rfl) ?_) | (refine ACalls.start ?_; first | (refine ACalls.ofJi (hc) rfl ?_) | (refine ACalls.ofJi (n1) rfl ?_) | (refine ACalls.ofJi (n2) rfl ?_)) | (refine KV.run _ ?_) | (refine KT.run _ ?_) | (refine AWp.seqH fun KC => ?_) | (refine AWp.block ?_) | (refine AWp.region ?_) | (refine mops_step0 rfl rfl fun KC => ?_) | (refine mops_step1 rfl fun KC => ?_) | (refine mops_step2 rfl fun KC => ?_) | (refine AWp.skip ?_) | (refine aops_callH rfl fun kC => ?_) | (refine AWp.condB ?_) | (simp only [bse, wk, tys, storeH_ptr, Nat.reduceEqDiff, ↓reduceIte, reduceCtorEq, Nat.reduceAdd, Nat.reduceLeDiff, Int.reduceBEq, Int.reduceLT, Int.reduceLE, Int.reduceEq, ne_eq, not_false_eq_true, Nat.reduceMul, refE_val, refE_sz, outE_val, outE_sz, txE_val, txE_sz, ruleE_val, ruleE_sz, *]))
    exact hJ.out _ _ ⟨ws.length - (j + 1), by omega, j + 1, a', n', v', S', M', by omega, rfl, rfl, rfl, hM2⟩ (by repeat (first | exact Agree.refl _ _ | assumption | refine Agree.put ?_ rfl _))
  · have hlt' : ¬ (j : Int) < (ws.length : Int) := by omega
    have hje : j = ws.length := by omega
    subst hje
    rw [List.take_length, ← hinsH.out] at hM
    clear hinsH hiw hnw hsi
    repeat' (first | (refine KT.run _ ?_) | (refine AWp.seqH fun KC => ?_) | (refine AWp.block ?_) | (refine AWp.region ?_) | (refine AWp.exit ?_) | (refine AWp.condB ?_) | (simp only [bse, wk, tys, storeH_ptr, Nat.reduceEqDiff, ↓reduceIte, reduceCtorEq, Nat.reduceAdd, Nat.reduceLeDiff, Int.reduceBEq, Int.reduceLT, Int.reduceLE, Int.reduceEq, ne_eq, not_false_eq_true, Nat.reduceMul, refE_val, refE_sz, outE_val, outE_sz, txE_val, txE_sz, ruleE_val, ruleE_sz, *]))
    refine AWp.loopH [90, 91, 92, 12, 94, 95, 93, 96, 97, 13, 14, 98, 99, 100, 3, 101, 102, 103, 104, 105, 106, 107, 89] (fun m' e' H' => ∃ (j : Nat) (ad2 : Option Addr) (n2 v2 : Nat) (S2 : List Nat) (M2 : AH) (pre : List TOut), j ≤ wo.length ∧ m' = wo.length - j ∧ e' 89 = .int .i64 j ∧ H' = ⟨45, 0, [.int .i64 0, .int .i64 0, .slice none 0 0, .slice none 0 0], 0, true⟩ :: ⟨45, 0, [.int .i64 k, .int .i64 0, .slice a n v, .slice ad2 n2 v2], 0, true⟩ :: M2 ∧ pre.length = j ∧ Hid (SlO 2 128 refE M2 a n v ins S) ∧ Hid (SlO 2 120 outE M2 ad2 n2 v2 pre S2) ∧ Hid (∀ r ∈ S, r ∉ S2) ∧ Hid (∀ x ∈ pre, x.rule.keys.length ≤ 1000000) ∧ Hid (R = rdFin t k 0 ins ((rdOuts (wo.drop j)).map (pre ++ ·)))) wo.length ⟨0, none, 0, 0, [], M, [], by omega, by omega, rfl, rfl, rfl, hM, SlO.nil _ _ _ _, fun _ _ h => by simp at h, fun _ h => by simp at h, hR0⟩ ?_
    clear hM hR0
    rintro m' e' H' hA ⟨j, ad2, n2, v2, S2, M2, pre, hj, rfl, ecnt, rfl, hpl, hI, hO, hD, hB, hF⟩ hJ
    have a0 := hA 0 rfl; have a2 := hA 2 rfl; have a5 := hA 5 rfl; have a87 := hA 87 rfl; have a88 := hA 88 rfl; try simp only [bse, wk, tys, storeH_ptr, Nat.reduceEqDiff, ↓reduceIte, reduceCtorEq, Nat.reduceAdd, Nat.reduceLeDiff, Int.reduceBEq, Int.reduceLT, Int.reduceLE, Int.reduceEq, ne_eq, not_false_eq_true, Nat.reduceMul] at a0 a2 a5 a87 a88; clear hA
    by_cases hlt : j < wo.length
    · have hlt' : (j : Int) < (wo.length : Int) := by omega
      have hw := wr_succ (k := j) (by omega)
      have hkb := hwo j hlt (by omega)
      have hro := impl_readOut wo[j] (by have := hlo wo[j] (List.getElem_mem hlt); omega)
      have hst := rdOuts_step wo j hlt
      have hok : (readR 95 (cutAt 61 wo[j]).2.1).2 = true → _ := readR_ok
      generalize readR 95 (cutAt 61 wo[j]).2.1 = Q at hro hst hok
      generalize numL (cutAt 61 wo[j]).1 = x at hro hst
      repeat' (first | (refine ACalls.start ?_; first | (refine ACalls.get (hro.use dOut_sh (.cons (.same _ (.flat _ rfl)) .nil)) (by first | exact Nat.le_refl _ | exact Nat.zero_le _ | (simp only [List.length_append, List.length_cons, List.length_nil]; omega) | (simp only [List.length_set]; omega) | omega) (by first | exact Nat.le_refl _ | exact Nat.zero_le _ | (simp only [List.length_append, List.length_cons, List.length_nil]; omega) | (simp only [List.length_set]; omega) | omega) ?_; rintro _ _ ⟨_, _, hd, rfl, rfl⟩)) | (refine KV.run _ ?_) | (refine KT.run _ ?_) | (refine AWp.seqH fun KC => ?_) | (refine AWp.block ?_) | (refine AWp.region ?_) | (refine AWp.skip ?_) | (refine aops_callH rfl fun kC => ?_) | (refine AWp.condB ?_) | (simp only [bse, wk, tys, storeH_ptr, Nat.reduceEqDiff, ↓reduceIte, reduceCtorEq, Nat.reduceAdd, Nat.reduceLeDiff, Int.reduceBEq, Int.reduceLT, Int.reduceLE, Int.reduceEq, ne_eq, not_false_eq_true, Nat.reduceMul, refE_val, refE_sz, outE_val, outE_sz, txE_val, txE_sz, ruleE_val, ruleE_sz, *]))
      rcases hd with ⟨rfl, rfl, rfl⟩ | ⟨hQ, v3, rfl, rfl⟩
      · have hN : R = (tx0, false) := by rw [hF.out, hst]; rfl
        subst hN
        clear hst hok hF hI hO hD hB hro
        repeat' (first | (refine KT.run _ ?_) | (refine AWp.seqH fun KC => ?_) | (refine AWp.region ?_) | (refine AWp.ret ?_) | (refine AWp.condB ?_) | (simp only [bse, wk, tys, storeH_ptr, Nat.reduceEqDiff, ↓reduceIte, reduceCtorEq, Nat.reduceAdd, Nat.reduceLeDiff, Int.reduceBEq, Int.reduceLT, Int.reduceLE, Int.reduceEq, ne_eq, not_false_eq_true, Nat.reduceMul, refE_val, refE_sz, outE_val, outE_sz, txE_val, txE_sz, ruleE_val, ruleE_sz, *]))
        exact own_tx0 false
      · have hk3 := (rf_bounds (hok hQ)).1.2
        obtain ⟨⟨ks, need, after⟩, qb⟩ := Q
        dsimp only at hQ hk3 hst ⊢
        subst hQ
        rw [if_pos rfl] at hst
        have hS : Hid (R = rdFin t k 0 ins ((rdOuts (wo.drop (j + 1))).map ((pre ++ [⟨x, ⟨ks, need, after⟩⟩]) ++ ·))) := by
          unfold Hid
          rw [hF.out, hst, Option.map_map]
          congr 2
          funext l
          simp
        have hB2 : Hid (∀ z ∈ pre ++ [(⟨x, ⟨ks, need, after⟩⟩ : TOut)], z.rule.keys.length ≤ 1000000) := fun y hy => by
          rcases List.mem_append.1 hy with hy | hy
          · exact hB.out y hy
          · rw [List.mem_singleton] at hy; subst hy; dsimp only; omega
        clear hst hok hF hB hro
        have hU : ∀ p : AH, p.length = 2 → OwnL true (p ++ (M2 ++ [⟨2, 1, intE.flat ks, v3, true⟩, ⟨120, 0, [.int .i64 x, .slice (some ⟨M2.length + 2, 0, none⟩) ks.length v3, .int .i64 need, .int .i64 after], 0, true⟩])) [.int .i64 x, .slice (some ⟨M2.length + 2, 0, none⟩) ks.length v3, .int .i64 need, .int .i64 after] (cellsV (outE.val ⟨x, ⟨ks, need, after⟩⟩)) [M2.length + 2] := fun p hp =>
          .flat rfl (OwnL.consL (S := [M2.length + 2]) (T := []) (OwnL.sl (E := intE) (rest := []) (by rw [List.append_nil]; exact get_kb hp) (fun _ => rfl) rfl (intE_flat _) (fun _ => ⟨rfl, rfl⟩)) (.flat rfl (.flat rfl .nil)))
        obtain ⟨ad3, n3, v3', S3, M3, hap, hO3, _, hS3, hfr⟩ := (hO.out.grow [⟨2, 1, intE.flat ks, v3, true⟩, ⟨120, 0, [.int .i64 x, .slice (some ⟨M2.length + 2, 0, none⟩) ks.length v3, .int .i64 need, .int .i64 after], 0, true⟩]).app (P := Tryz.prog) (B := 0) [⟨45, 0, [.int .i64 0, .int .i64 0, .slice none 0 0, .slice none 0 0], 0, true⟩, ⟨45, 0, [.int .i64 k, .int .i64 0, .slice a n v, .slice ad2 n2 v2], 0, true⟩] rfl (M2.length + 2 + 2) (by simp; omega) elZ43 elZ43 zOk43 (Nat.zero_le _) (⟨x, ⟨ks, need, after⟩⟩ : TOut) (U := [M2.length + 2]) hU (by simp) (by simp) (fun r hr => by have := hO.out.lt r hr; simp; omega) (by omega) (by omega)
        simp only [outE_sz, List.append_assoc, List.cons_append, List.nil_append] at hap
        have hI3 : Hid (SlO 2 128 refE M3 a n v ins S) := (hI.out.grow _).frame fun i hi => hfr i (by have := hI.out.lt _ hi; simp; omega) (hD.out _ hi)
        have hD3 : Hid (∀ r ∈ S, r ∉ S3) := fun r hr hr3 => by
          have := hI.out.lt r hr
          rcases hS3 r hr3 with h | h | h
          · exact hD.out r hr h
          · simp at h; omega
          · simp at h; omega
        have hO4 : Hid (SlO 2 120 outE M3 ad3 n3 v3' (pre ++ [(⟨x, ⟨ks, need, after⟩⟩ : TOut)]) S3) := hO3
        clear hU hO3 hI hO hD hS3 hfr
        repeat' (first | (refine KT.run _ ?_) | (refine AWp.seqH fun KC => ?_) | (refine AWp.region ?_) | (refine AWp.skip ?_) | (refine AWp.condB ?_) | (simp only [bse, wk, tys, storeH_ptr, Nat.reduceEqDiff, ↓reduceIte, reduceCtorEq, Nat.reduceAdd, Nat.reduceLeDiff, Int.reduceBEq, Int.reduceLT, Int.reduceLE, Int.reduceEq, ne_eq, not_false_eq_true, Nat.reduceMul, refE_val, refE_sz, outE_val, outE_sz, txE_val, txE_sz, ruleE_val, ruleE_sz, *]))
        exact hJ.out _ _ ⟨wo.length - (j + 1), by omega, j + 1, ad3, n3, v3', S3, M3, pre ++ [⟨x, ⟨ks, need, after⟩⟩], by omega, rfl, rfl, rfl, by simp [hpl], hI3, hO4, hD3, hB2, hS⟩ (by repeat (first | exact Agree.refl _ _ | assumption | refine Agree.put ?_ rfl _))
    · have hlt' : ¬ (j : Int) < (wo.length : Int) := by omega
      have hje : j = wo.length := by omega
      have hS : Hid (R = chkT t ⟨k, 0, ins, pre⟩) := by unfold Hid; rw [hF.out, hje, List.drop_length]; simp [rdOuts, rdFin]
      have hfa := impl_TxFault ⟨k, 0, ins, pre⟩ (by dsimp only; omega) (by dsimp only; omega) hB.out
      have htx := impl_txText ⟨k, 0, ins, pre⟩
      have hbi := hI.out.bor
      have hbo := hO.out.bor
      have hba : ∀ b0 b1 : Blk, Bor (b0 :: b1 :: M2) (.agg #[.int .i64 k, .int .i64 0, .slice a n v, .slice ad2 n2 v2]) (txE.val ⟨k, 0, ins, pre⟩) := fun b0 b1 => Bor.aggL (.cons (.same _ (.flat _ rfl)) (.cons (.same _ (.flat _ rfl)) (.cons (hbi [b0, b1] rfl) (.cons (hbo [b0, b1] rfl) .nil))))
      have hoi := hI.out.own
      have hoo := hO.out.own
      have hnd : (S ++ S2).Nodup := List.nodup_append.2 ⟨hI.out.nd, hO.out.nd, fun a ha b hb e => by subst e; exact hD.out a ha hb⟩
      have hown : ∀ (b0 b1 : Blk) (b : Bool), ∃ S : List Nat, S.Nodup ∧ OwnL false (b0 :: b1 :: M2) [.tuple #[.agg #[.int .i64 k, .int .i64 0, .slice a n v, .slice ad2 n2 v2], .bool b]] [.tuple #[txE.val ⟨k, 0, ins, pre⟩, .bool b]] S := fun b0 b1 b =>
        ⟨S ++ S2, hnd, by
          have h1 := OwnL.aggL (OwnL.flat (v := .int .i64 k) rfl (OwnL.flat (v := .int .i64 0) rfl (OwnL.consL (hoi [b0, b1] rfl) (hoo [b0, b1] rfl))))
          have h2 := OwnL.tupL (OwnL.consL h1 (OwnL.flat (v := .bool b) rfl .nil))
          rw [List.append_nil] at h2
          exact h2.loose⟩
      clear hI hO hD hB hF hbi hbo hoi hoo hnd hwo hlo hje hj
      by_cases hf : txFault ⟨k, 0, ins, pre⟩ = 0
      · rw [hf] at hfa
        have htx := htx hf
        have hR2 : R = (⟨k, 0, ins, pre⟩, !decide (300 < (txT ⟨k, 0, ins, pre⟩).length) && (txT ⟨k, 0, ins, pre⟩ == t)) := by rw [hS.out]; unfold chkT; rw [if_pos hf]
        generalize txT ⟨k, 0, ins, pre⟩ = T at htx hR2
        clear hf hS
        by_cases h3 : 300 < T.length
        · have hR3 : R = (⟨k, 0, ins, pre⟩, false) := by rw [hR2, decide_eq_true h3]; rfl
          subst hR3
          rw [if_pos h3, if_pos h3] at htx
          clear hR2 h3
          repeat' (first | (refine KT.run _ ?_) | (refine AWp.seqH fun KC => ?_) | (refine AWp.region ?_) | (refine AWp.exit ?_) | (refine aops_callH rfl fun kC => ?_) | (refine AWp.condB ?_) | (simp only [bse, wk, tys, storeH_ptr, Nat.reduceEqDiff, ↓reduceIte, reduceCtorEq, Nat.reduceAdd, Nat.reduceLeDiff, Int.reduceBEq, Int.reduceLT, Int.reduceLE, Int.reduceEq, ne_eq, not_false_eq_true, Nat.reduceMul, refE_val, refE_sz, outE_val, outE_sz, txE_val, txE_sz, ruleE_val, ruleE_sz, *]))
          refine ACalls.ofP hfa (.cons (hba _ _) .nil) rfl ?_
          repeat' (first | (refine KV.run _ ?_) | (refine KT.run _ ?_) | (refine AWp.seqH fun KC => ?_) | (refine AWp.region ?_) | (refine AWp.skip ?_) | (refine aops_callH rfl fun kC => ?_) | (refine AWp.condB ?_) | (simp only [bse, wk, tys, storeH_ptr, Nat.reduceEqDiff, ↓reduceIte, reduceCtorEq, Nat.reduceAdd, Nat.reduceLeDiff, Int.reduceBEq, Int.reduceLT, Int.reduceLE, Int.reduceEq, ne_eq, not_false_eq_true, Nat.reduceMul, refE_val, refE_sz, outE_val, outE_sz, txE_val, txE_sz, ruleE_val, ruleE_sz, *]))
          refine ACalls.ofPT htx (.cons (hba _ _) .nil) (by simp [flatV]) ?_
          repeat' (first | (refine KV.run _ ?_) | (refine KT.run _ ?_) | (refine AWp.seqH fun KC => ?_) | (refine AWp.region ?_) | (refine AWp.ret ?_) | (simp only [bse, wk, tys, storeH_ptr, Nat.reduceEqDiff, ↓reduceIte, reduceCtorEq, Nat.reduceAdd, Nat.reduceLeDiff, Int.reduceBEq, Int.reduceLT, Int.reduceLE, Int.reduceEq, ne_eq, not_false_eq_true, Nat.reduceMul, refE_val, refE_sz, outE_val, outE_sz, txE_val, txE_sz, ruleE_val, ruleE_sz, *]))
          exact hown _ _ _
        · rw [if_neg h3, if_neg h3] at htx
          have hR3 : R = (⟨k, 0, ins, pre⟩, T == t) := by rw [hR2, decide_eq_false h3]; rfl
          have hct : (bs T == bs t) = (T == t) := bs_beq T t
          obtain ⟨tb, htb⟩ : ∃ tb, tb = (T == t) := ⟨_, rfl⟩
          rw [← htb] at hR3 hct
          subst hR3
          clear hR2 h3 htb
          repeat' (first | (refine KT.run _ ?_) | (refine AWp.seqH fun KC => ?_) | (refine AWp.region ?_) | (refine AWp.exit ?_) | (refine aops_callH rfl fun kC => ?_) | (refine AWp.condB ?_) | (simp only [bse, wk, tys, storeH_ptr, Nat.reduceEqDiff, ↓reduceIte, reduceCtorEq, Nat.reduceAdd, Nat.reduceLeDiff, Int.reduceBEq, Int.reduceLT, Int.reduceLE, Int.reduceEq, ne_eq, not_false_eq_true, Nat.reduceMul, refE_val, refE_sz, outE_val, outE_sz, txE_val, txE_sz, ruleE_val, ruleE_sz, *]))
          refine ACalls.ofP hfa (.cons (hba _ _) .nil) rfl ?_
          repeat' (first | (refine KV.run _ ?_) | (refine KT.run _ ?_) | (refine AWp.seqH fun KC => ?_) | (refine AWp.region ?_) | (refine AWp.skip ?_) | (refine aops_callH rfl fun kC => ?_) | (refine AWp.condB ?_) | (simp only [bse, wk, tys, storeH_ptr, Nat.reduceEqDiff, ↓reduceIte, reduceCtorEq, Nat.reduceAdd, Nat.reduceLeDiff, Int.reduceBEq, Int.reduceLT, Int.reduceLE, Int.reduceEq, ne_eq, not_false_eq_true, Nat.reduceMul, refE_val, refE_sz, outE_val, outE_sz, txE_val, txE_sz, ruleE_val, ruleE_sz, *]))
          refine ACalls.ofPT htx (.cons (hba _ _) .nil) (by simp [flatV]) ?_
          repeat' (first | (refine KV.run _ ?_) | (refine KT.run _ ?_) | (refine AWp.seqH fun KC => ?_) | (refine AWp.region ?_) | (refine AWp.ret ?_) | (simp only [bse, wk, tys, storeH_ptr, Nat.reduceEqDiff, ↓reduceIte, reduceCtorEq, Nat.reduceAdd, Nat.reduceLeDiff, Int.reduceBEq, Int.reduceLT, Int.reduceLE, Int.reduceEq, ne_eq, not_false_eq_true, Nat.reduceMul, refE_val, refE_sz, outE_val, outE_sz, txE_val, txE_sz, ruleE_val, ruleE_sz, *]))
          exact hown _ _ _
      · have hR2 : R = (tx0, false) := by rw [hS.out]; unfold chkT; rw [if_neg hf]
        have hf' : (txFault ⟨k, 0, ins, pre⟩ == 0) = false := by simpa using hf
        subst hR2
        clear htx hf hS hown
        generalize txFault ⟨k, 0, ins, pre⟩ = F at hfa hf'
        repeat' (first | (refine KT.run _ ?_) | (refine AWp.seqH fun KC => ?_) | (refine AWp.region ?_) | (refine AWp.exit ?_) | (refine aops_callH rfl fun kC => ?_) | (refine AWp.condB ?_) | (simp only [bse, wk, tys, storeH_ptr, Nat.reduceEqDiff, ↓reduceIte, reduceCtorEq, Nat.reduceAdd, Nat.reduceLeDiff, Int.reduceBEq, Int.reduceLT, Int.reduceLE, Int.reduceEq, ne_eq, not_false_eq_true, Nat.reduceMul, refE_val, refE_sz, outE_val, outE_sz, txE_val, txE_sz, ruleE_val, ruleE_sz, *]))
        refine ACalls.ofP hfa (.cons (hba _ _) .nil) rfl ?_
        repeat' (first | (refine KV.run _ ?_) | (refine KT.run _ ?_) | (refine AWp.seqH fun KC => ?_) | (refine AWp.region ?_) | (refine AWp.ret ?_) | (refine AWp.condB ?_) | (simp only [bse, wk, tys, storeH_ptr, Nat.reduceEqDiff, ↓reduceIte, reduceCtorEq, Nat.reduceAdd, Nat.reduceLeDiff, Int.reduceBEq, Int.reduceLT, Int.reduceLE, Int.reduceEq, ne_eq, not_false_eq_true, Nat.reduceMul, refE_val, refE_sz, outE_val, outE_sz, txE_val, txE_sz, ruleE_val, ruleE_sz, *]))
        exact own_tx0 false
end Go.BM
/- A transaction, read out of a text, with a member: the program. -/
set_option linter.unusedVariables false
set_option linter.unusedSimpArgs false
set_option maxRecDepth 100000
set_option maxHeartbeats 4000000
namespace Go.BM
open Go.Proofs Go.RowKit
attribute [local irreducible] ACalls AWp aops qops optK optP cK gateA condK mops qcallK PCalls loadV fldV idxV lenV slV storeH binS
theorem readTxK (t w0 wm wi : List UInt8) (wo : List (List UInt8)) (k : Int) (hw : cutL 32 t = w0 :: wm :: wi :: wo) (hk : kindK w0 = k) (hk1 : ¬ k < 0) (hk0 : (k == 0) = false) (ho : 1 ≤ wo.length ∧ wo.length ≤ 4) (ht : t.length ≤ 300) : NCalls Tryz.prog 56 [.string (bs t)] (.tuple #[txE.val (rdFin t k (numL wm) ((cutL 43 wi).map rdRef) (rdOuts wo)).1, .bool (rdFin t k (numL wm) ((cutL 43 wi).map rdRef) (rdOuts wo)).2]) := by
  have hsp := lib_SplitC t 32 (by omega)
  have hlt := cutL_mem 32 t
  rw [hw] at hlt
  have hlo : ∀ w ∈ wo, w.length ≤ 300 := fun w hw => by have := hlt w (by simp [hw]); omega
  have hli : wi.length ≤ 300 := by have := hlt wi (by simp); omega
  have nm : PCalls Tryz.prog 74 [.string (bs wm)] (.int .i64 (numL wm)) := lib_number (bs wm) (by rw [bs_size]; have := hlt wm (by simp); omega)
  have hW : cutW 32 t = bs w0 :: bs wm :: bs wi :: wo.map bs := by unfold cutW; rw [hw]; rfl
  rw [hW] at hsp
  have hki := kind_index w0
  rw [hk] at hki
  have hsi := lib_SplitC wi 43 (by omega)
  have hnl := cutL_len 43 wi
  have hil := cutL_mem 43 wi
  have hcw : cutW 43 wi = (cutL 43 wi).map bs := rfl
  rw [hcw] at hsi
  generalize cutL 43 wi = ws at hsi hnl hil ⊢
  have hnw : ws.length ≤ 301 := by omega
  have hiw : ∀ w ∈ ws, w.length ≤ 300 := fun w hw => by have := hil w hw; omega
  have hml : (ws.map bs).length = ws.length := List.length_map ..
  obtain ⟨W2, hW2⟩ : ∃ W2, W2 = wo.map bs := ⟨_, rfl⟩
  have hml2 : W2.length = wo.length := by rw [hW2, List.length_map]
  have hwo : ∀ (j : Nat) (h : j < wo.length) (h2 : j < W2.length), W2[j] = bs wo[j] := fun j h h2 => by subst hW2; exact List.getElem_map ..
  rw [← hW2] at hsp
  obtain ⟨W1, hW1⟩ : ∃ W1, W1 = bs wi :: W2 := ⟨_, rfl⟩
  rw [← hW1] at hsp
  have ix1 : ∀ H : AH, idxV Tryz.prog H 22 (islE strE W1) (.int .i64 0) = some (ip (.string (bs wi) :: strE.flat W2)) := fun H => by rw [hW1]; exact ix_cons H _ _
  have sl1 : ∀ H : AH, slV Tryz.prog H 22 (islE strE W1) (some (.int .i64 1)) none none = some (islE strE W2) := fun H => by rw [hW1]; exact sl_cons H _ _
  have q1 : ¬ ((W1.length : Int) < 2) := by rw [hW1]; simp; omega
  have q2 : ¬ ((5 : Int) < (W1.length : Int)) := by rw [hW1]; simp; omega
  obtain ⟨W3, hW3⟩ : ∃ W3, W3 = bs wm :: W1 := ⟨_, rfl⟩
  rw [← hW3] at hsp
  have ix3 : ∀ H : AH, idxV Tryz.prog H 22 (islE strE W3) (.int .i64 0) = some (ip (.string (bs wm) :: strE.flat W1)) := fun H => by rw [hW3]; exact ix_cons H _ _
  have sl3 : ∀ H : AH, slV Tryz.prog H 22 (islE strE W3) (some (.int .i64 1)) none none = some (islE strE W1) := fun H => by rw [hW3]; exact sl_cons H _ _
  have q3 : (0 : Int) < (W3.length : Int) := by rw [hW3, List.length_cons]; omega
  obtain ⟨W0, hW0⟩ : ∃ W0, W0 = bs w0 :: W3 := ⟨_, rfl⟩
  rw [← hW0] at hsp
  have ix0 : ∀ H : AH, idxV Tryz.prog H 22 (islE strE W0) (.int .i64 0) = some (ip (.string (bs w0) :: strE.flat W3)) := fun H => by rw [hW0]; exact ix_cons H _ _
  have sl0 : ∀ H : AH, slV Tryz.prog H 22 (islE strE W0) (some (.int .i64 1)) none none = some (islE strE W3) := fun H => by rw [hW0]; exact sl_cons H _ _
  have ld := ld_str
  have kw := kindWords_p
  have h300 : ¬ (300 : Int) < (t.length : Int) := by omega
  clear hW hlt hw hW0 hW1 hW2 hk hil hnl hcw ht hW3
  generalize numL wm = m at nm ⊢
  obtain ⟨ins, hins⟩ : ∃ ins, ins = ws.map rdRef := ⟨_, rfl⟩
  rw [← hins]
  have hinl : ins.length ≤ 301 := by rw [hins, List.length_map]; exact hnw
  have hinsH : Hid _ := hins
  clear hins
  obtain ⟨R, hR⟩ : ∃ R, R = rdFin t k m ins (rdOuts wo) := ⟨_, rfl⟩
  rw [← hR]
  have hR0 : Hid (R = rdFin t k m ins ((rdOuts (wo.drop 0)).map (([] : List TOut) ++ ·))) := by unfold Hid; rw [hR]; simp
  clear hR
  refine NCalls.of ?_; refine ACalls.enter (n := 125) (rs := [.cell 2 45, .tmp 3]) Tryz.func56 rfl rfl rfl (by kernel_rfl) (by kernel_rfl) (by kernel_rfl) (Nat.le_of_ble_eq_true rfl) ?_
  repeat' (first | (refine ACalls.start ?_; first | (refine ACalls.ofJi (hsp) rfl ?_)) | (refine KV.run _ ?_) | (refine KT.run _ ?_) | (refine AWp.seqH fun KC => ?_) | (refine AWp.region ?_) | (refine aops_callH rfl fun kC => ?_) | (simp only [bse, wk, tys, storeH_ptr, Nat.reduceEqDiff, ↓reduceIte, reduceCtorEq, Nat.reduceAdd, Nat.reduceLeDiff, Int.reduceBEq, Int.reduceLT, Int.reduceLE, Int.reduceEq, ne_eq, not_false_eq_true, Nat.reduceMul, refE_val, refE_sz, outE_val, outE_sz, txE_val, txE_sz, ruleE_val, ruleE_sz, *]))
  refine AWp.mixedT (id := 2) (.cons 1 0 (.cons 2 0 (.cons 3 0 (.alt 0 1 (.alt 4 1 (.cons 5 0 (.cons 6 1 (.cons 7 2 .nil))) (.cons 6 1 (.cons 4 1 (.cons 5 0 (.cons 7 2 .nil))))) (.cons 6 1 (.cons 0 1 (.cons 4 1 (.cons 5 0 (.cons 7 2 .nil))))))))) (by kernel_rfl) (by kernel_rfl) ?_
  refine mopsT_abs fun e0 he0 => ?_
  have r4 := congrFun he0 4
  try simp only [bse, wk, tys, storeH_ptr, Nat.reduceEqDiff, ↓reduceIte, reduceCtorEq, Nat.reduceAdd, Nat.reduceLeDiff, Int.reduceBEq, Int.reduceLT, Int.reduceLE, Int.reduceEq, ne_eq, not_false_eq_true, Nat.reduceMul, refE_val, refE_sz, outE_val, outE_sz, txE_val, txE_sz, ruleE_val, ruleE_sz] at r4
  have he1 : Hid _ := he0
  clear he0
  apply mopsT_cut
  case h1 =>
    repeat' (first | (refine mopsT_step0 rfl rfl fun KC => ?_) | (refine mopsT_step1 rfl fun KC => ?_) | (refine mopsT_step2 rfl fun KC => ?_) | (refine mopsT_alt1 rfl (fun KC => ?_) ?_) | (refine ACalls.start ?_; first | (refine ACalls.ofJi (kw) rfl ?_) | (refine ACalls.ofJi (hki) rfl ?_)) | (refine KV.run _ ?_) | (refine KT.run _ ?_) | (refine aops_callH rfl fun kC => ?_) | (simp only [bse, wk, tys, storeH_ptr, Nat.reduceEqDiff, ↓reduceIte, reduceCtorEq, Nat.reduceAdd, Nat.reduceLeDiff, Int.reduceBEq, Int.reduceLT, Int.reduceLE, Int.reduceEq, ne_eq, not_false_eq_true, Nat.reduceMul, refE_val, refE_sz, outE_val, outE_sz, txE_val, txE_sz, ruleE_val, ruleE_sz, *]))
    all_goals (first | exact ⟨rfl, rfl⟩ | (refine AtEH.mk (funext fun q => env_pt 5 q rfl fun hq5 => ?_) rfl; simp only [put, hq5, if_false]))
  have he2 := he1.out
  clear he1
  subst he2
  clear kw hki ix0
  repeat' (first | (refine ACalls.start ?_; first | (refine ACalls.ofJi (nm) rfl ?_) | (refine ACalls.ofJi (hsi) rfl ?_)) | (refine KV.run _ ?_) | (refine KT.run _ ?_) | (refine AWp.seqH fun KC => ?_) | (refine AWp.block ?_) | (refine AWp.region ?_) | (refine AWp.skip ?_) | (refine aops_callH rfl fun kC => ?_) | (refine AWp.condB ?_) | (simp only [bse, wk, tys, storeH_ptr, Nat.reduceEqDiff, ↓reduceIte, reduceCtorEq, Nat.reduceAdd, Nat.reduceLeDiff, Int.reduceBEq, Int.reduceLT, Int.reduceLE, Int.reduceEq, ne_eq, not_false_eq_true, Nat.reduceMul, refE_val, refE_sz, outE_val, outE_sz, txE_val, txE_sz, ruleE_val, ruleE_sz, *]))
  refine AWp.loopH [66, 67, 68, 7, 70, 71, 69, 72, 73, 74, 8, 9, 10, 75, 76, 77, 78, 79, 80, 81, 82, 83, 84, 85, 65] (fun m' e' H' => ∃ (j : Nat) (a : Option Addr) (n v : Nat) (S : List Nat) (M : AH), j ≤ ws.length ∧ m' = ws.length - j ∧ e' 65 = .int .i64 j ∧ H' = ⟨45, 0, [.int .i64 0, .int .i64 0, .slice none 0 0, .slice none 0 0], 0, true⟩ :: ⟨45, 0, [.int .i64 k, .int .i64 m, .slice a n v, .slice none 0 0], 0, true⟩ :: M ∧ Hid (SlO 2 128 refE M a n v ((ws.take j).map rdRef) S)) ws.length ⟨0, none, 0, 0, [], [], by omega, by omega, rfl, rfl, SlO.nil _ _ _ _⟩ ?_
  rintro m' e' H' hA ⟨j, a, n, v, S, M, hj, rfl, ecnt, rfl, hM⟩ hJ
  have a0 := hA 0 rfl; have a2 := hA 2 rfl; have a3 := hA 3 rfl; have a4 := hA 4 rfl; have a5 := hA 5 rfl; have a63 := hA 63 rfl; have a64 := hA 64 rfl; try simp only [bse, wk, tys, storeH_ptr, Nat.reduceEqDiff, ↓reduceIte, reduceCtorEq, Nat.reduceAdd, Nat.reduceLeDiff, Int.reduceBEq, Int.reduceLT, Int.reduceLE, Int.reduceEq, ne_eq, not_false_eq_true, Nat.reduceMul] at a0 a2 a3 a4 a5 a63 a64; clear hA
  by_cases hlt : j < ws.length
  · have hlt' : (j : Int) < (ws.length : Int) := by omega
    have hw := wr_succ (k := j) (by omega)
    have hkb : (ws.map bs)[j]'(by omega) = bs ws[j] := List.getElem_map ..
    have hwj := hiw ws[j] (List.getElem_mem hlt)
    have hcl := cutAt_len 58 ws[j]
    have hc := lib_Cut ws[j] 58 (by omega)
    have n1 : PCalls Tryz.prog 74 [.string (bs (cutAt 58 ws[j]).1)] (.int .i64 (numL (cutAt 58 ws[j]).1)) := lib_number _ (by rw [bs_size]; omega)
    have n2 : PCalls Tryz.prog 74 [.string (bs (cutAt 58 ws[j]).2.1)] (.int .i64 (numL (cutAt 58 ws[j]).2.1)) := lib_number _ (by rw [bs_size]; omega)
    have hst := map_step rdRef ws j hlt
    have hrd : rdRef ws[j] = ⟨numL (cutAt 58 ws[j]).1, numL (cutAt 58 ws[j]).2.1⟩ := rfl
    rw [hrd] at hst
    have hstH : Hid _ := hst
    clear hst hrd hcl hwj
    generalize numL (cutAt 58 ws[j]).1 = x at n1 hstH
    generalize numL (cutAt 58 ws[j]).2.1 = y at n2 hstH
    generalize (cutAt 58 ws[j]).1 = u1 at n1 hc
    generalize (cutAt 58 ws[j]).2.1 = u2 at n2 hc
    generalize (cutAt 58 ws[j]).2.2 = u3 at hc
    have hyl : ((ws.take j).map rdRef).length = j := by rw [List.length_map, List.length_take]; omega
    obtain ⟨a', n', v', S', M', hap, hM', _, _, _⟩ := hM.out.app (P := Tryz.prog) (B := 0) [⟨45, 0, [.int .i64 0, .int .i64 0, .slice none 0 0, .slice none 0 0], 0, true⟩, ⟨45, 0, [.int .i64 k, .int .i64 m, .slice a n v, .slice none 0 0], 0, true⟩] rfl (M.length + 1 + 1) (by omega) elZ42 elZ42 zOk42 (Nat.zero_le _) (⟨x, y⟩ : TRef) (ds := [.int .i64 x, .int .i64 y]) (U := []) (fun _ _ => .flat rfl (.flat rfl .nil)) List.nodup_nil (by simp) (by simp) (by omega) (by omega)
    simp only [refE_sz, List.cons_append, List.nil_append] at hap
    rw [← hstH.out] at hM'
    have hM2 : Hid _ := hM'
    clear hM' hM hyl hstH
    repeat' (first | (refine AWp.mixed (id := 15) [(0, 0), (1, 0), (2, 0), (4, 0), (3, 1), (5, 1), (6, 0), (7, 1), (8, 2), (9, 0), (10, 2)] (by kernel_rfl) (by kernel_rfl) ?_) | (refine ACalls.start ?_; first | (refine ACalls.ofJi (hc) rfl ?_) | (refine ACalls.ofJi (n1) rfl ?_) | (refine ACalls.ofJi (n2) rfl ?_)) | (refine KV.run _ ?_) | (refine KT.run _ ?_) | (refine AWp.seqH fun KC => ?_) | (refine AWp.block ?_) | (refine AWp.region ?_) | (refine mops_step0 rfl rfl fun KC => ?_) | (refine mops_step1 rfl fun KC => ?_) | (refine mops_step2 rfl fun KC => ?_) | (refine AWp.skip ?_) | (refine aops_callH rfl fun kC => ?_) | (refine AWp.condB ?_) | (simp only [bse, wk, tys, storeH_ptr, Nat.reduceEqDiff, ↓reduceIte, reduceCtorEq, Nat.reduceAdd, Nat.reduceLeDiff, Int.reduceBEq, Int.reduceLT, Int.reduceLE, Int.reduceEq, ne_eq, not_false_eq_true, Nat.reduceMul, refE_val, refE_sz, outE_val, outE_sz, txE_val, txE_sz, ruleE_val, ruleE_sz, *]))
    exact hJ.out _ _ ⟨ws.length - (j + 1), by omega, j + 1, a', n', v', S', M', by omega, rfl, rfl, rfl, hM2⟩ (by repeat (first | exact Agree.refl _ _ | assumption | refine Agree.put ?_ rfl _))
  · have hlt' : ¬ (j : Int) < (ws.length : Int) := by omega
    have hje : j = ws.length := by omega
    subst hje
    rw [List.take_length, ← hinsH.out] at hM
    clear hinsH hiw hnw hsi
    repeat' (first | (refine KT.run _ ?_) | (refine AWp.seqH fun KC => ?_) | (refine AWp.block ?_) | (refine AWp.region ?_) | (refine AWp.exit ?_) | (refine AWp.condB ?_) | (simp only [bse, wk, tys, storeH_ptr, Nat.reduceEqDiff, ↓reduceIte, reduceCtorEq, Nat.reduceAdd, Nat.reduceLeDiff, Int.reduceBEq, Int.reduceLT, Int.reduceLE, Int.reduceEq, ne_eq, not_false_eq_true, Nat.reduceMul, refE_val, refE_sz, outE_val, outE_sz, txE_val, txE_sz, ruleE_val, ruleE_sz, *]))
    refine AWp.loopH [90, 91, 92, 12, 94, 95, 93, 96, 97, 13, 14, 98, 99, 100, 3, 101, 102, 103, 104, 105, 106, 107, 89] (fun m' e' H' => ∃ (j : Nat) (ad2 : Option Addr) (n2 v2 : Nat) (S2 : List Nat) (M2 : AH) (pre : List TOut), j ≤ wo.length ∧ m' = wo.length - j ∧ e' 89 = .int .i64 j ∧ H' = ⟨45, 0, [.int .i64 0, .int .i64 0, .slice none 0 0, .slice none 0 0], 0, true⟩ :: ⟨45, 0, [.int .i64 k, .int .i64 m, .slice a n v, .slice ad2 n2 v2], 0, true⟩ :: M2 ∧ pre.length = j ∧ Hid (SlO 2 128 refE M2 a n v ins S) ∧ Hid (SlO 2 120 outE M2 ad2 n2 v2 pre S2) ∧ Hid (∀ r ∈ S, r ∉ S2) ∧ Hid (∀ x ∈ pre, x.rule.keys.length ≤ 1000000) ∧ Hid (R = rdFin t k m ins ((rdOuts (wo.drop j)).map (pre ++ ·)))) wo.length ⟨0, none, 0, 0, [], M, [], by omega, by omega, rfl, rfl, rfl, hM, SlO.nil _ _ _ _, fun _ _ h => by simp at h, fun _ h => by simp at h, hR0⟩ ?_
    clear hM hR0
    rintro m' e' H' hA ⟨j, ad2, n2, v2, S2, M2, pre, hj, rfl, ecnt, rfl, hpl, hI, hO, hD, hB, hF⟩ hJ
    have a0 := hA 0 rfl; have a2 := hA 2 rfl; have a5 := hA 5 rfl; have a87 := hA 87 rfl; have a88 := hA 88 rfl; try simp only [bse, wk, tys, storeH_ptr, Nat.reduceEqDiff, ↓reduceIte, reduceCtorEq, Nat.reduceAdd, Nat.reduceLeDiff, Int.reduceBEq, Int.reduceLT, Int.reduceLE, Int.reduceEq, ne_eq, not_false_eq_true, Nat.reduceMul] at a0 a2 a5 a87 a88; clear hA
    by_cases hlt : j < wo.length
    · have hlt' : (j : Int) < (wo.length : Int) := by omega
      have hw := wr_succ (k := j) (by omega)
      have hkb := hwo j hlt (by omega)
      have hro := impl_readOut wo[j] (by have := hlo wo[j] (List.getElem_mem hlt); omega)
      have hst := rdOuts_step wo j hlt
      have hok : (readR 95 (cutAt 61 wo[j]).2.1).2 = true → _ := readR_ok
      generalize readR 95 (cutAt 61 wo[j]).2.1 = Q at hro hst hok
      generalize numL (cutAt 61 wo[j]).1 = x at hro hst
      repeat' (first | (refine ACalls.start ?_; first | (refine ACalls.get (hro.use dOut_sh (.cons (.same _ (.flat _ rfl)) .nil)) (by first | exact Nat.le_refl _ | exact Nat.zero_le _ | (simp only [List.length_append, List.length_cons, List.length_nil]; omega) | (simp only [List.length_set]; omega) | omega) (by first | exact Nat.le_refl _ | exact Nat.zero_le _ | (simp only [List.length_append, List.length_cons, List.length_nil]; omega) | (simp only [List.length_set]; omega) | omega) ?_; rintro _ _ ⟨_, _, hd, rfl, rfl⟩)) | (refine KV.run _ ?_) | (refine KT.run _ ?_) | (refine AWp.seqH fun KC => ?_) | (refine AWp.block ?_) | (refine AWp.region ?_) | (refine AWp.skip ?_) | (refine aops_callH rfl fun kC => ?_) | (refine AWp.condB ?_) | (simp only [bse, wk, tys, storeH_ptr, Nat.reduceEqDiff, ↓reduceIte, reduceCtorEq, Nat.reduceAdd, Nat.reduceLeDiff, Int.reduceBEq, Int.reduceLT, Int.reduceLE, Int.reduceEq, ne_eq, not_false_eq_true, Nat.reduceMul, refE_val, refE_sz, outE_val, outE_sz, txE_val, txE_sz, ruleE_val, ruleE_sz, *]))
      rcases hd with ⟨rfl, rfl, rfl⟩ | ⟨hQ, v3, rfl, rfl⟩
      · have hN : R = (tx0, false) := by rw [hF.out, hst]; rfl
        subst hN
        clear hst hok hF hI hO hD hB hro
        repeat' (first | (refine KT.run _ ?_) | (refine AWp.seqH fun KC => ?_) | (refine AWp.region ?_) | (refine AWp.ret ?_) | (refine AWp.condB ?_) | (simp only [bse, wk, tys, storeH_ptr, Nat.reduceEqDiff, ↓reduceIte, reduceCtorEq, Nat.reduceAdd, Nat.reduceLeDiff, Int.reduceBEq, Int.reduceLT, Int.reduceLE, Int.reduceEq, ne_eq, not_false_eq_true, Nat.reduceMul, refE_val, refE_sz, outE_val, outE_sz, txE_val, txE_sz, ruleE_val, ruleE_sz, *]))
        exact own_tx0 false
      · have hk3 := (rf_bounds (hok hQ)).1.2
        obtain ⟨⟨ks, need, after⟩, qb⟩ := Q
        dsimp only at hQ hk3 hst ⊢
        subst hQ
        rw [if_pos rfl] at hst
        have hS : Hid (R = rdFin t k m ins ((rdOuts (wo.drop (j + 1))).map ((pre ++ [⟨x, ⟨ks, need, after⟩⟩]) ++ ·))) := by
          unfold Hid
          rw [hF.out, hst, Option.map_map]
          congr 2
          funext l
          simp
        have hB2 : Hid (∀ z ∈ pre ++ [(⟨x, ⟨ks, need, after⟩⟩ : TOut)], z.rule.keys.length ≤ 1000000) := fun y hy => by
          rcases List.mem_append.1 hy with hy | hy
          · exact hB.out y hy
          · rw [List.mem_singleton] at hy; subst hy; dsimp only; omega
        clear hst hok hF hB hro
        have hU : ∀ p : AH, p.length = 2 → OwnL true (p ++ (M2 ++ [⟨2, 1, intE.flat ks, v3, true⟩, ⟨120, 0, [.int .i64 x, .slice (some ⟨M2.length + 2, 0, none⟩) ks.length v3, .int .i64 need, .int .i64 after], 0, true⟩])) [.int .i64 x, .slice (some ⟨M2.length + 2, 0, none⟩) ks.length v3, .int .i64 need, .int .i64 after] (cellsV (outE.val ⟨x, ⟨ks, need, after⟩⟩)) [M2.length + 2] := fun p hp =>
          .flat rfl (OwnL.consL (S := [M2.length + 2]) (T := []) (OwnL.sl (E := intE) (rest := []) (by rw [List.append_nil]; exact get_kb hp) (fun _ => rfl) rfl (intE_flat _) (fun _ => ⟨rfl, rfl⟩)) (.flat rfl (.flat rfl .nil)))
        obtain ⟨ad3, n3, v3', S3, M3, hap, hO3, _, hS3, hfr⟩ := (hO.out.grow [⟨2, 1, intE.flat ks, v3, true⟩, ⟨120, 0, [.int .i64 x, .slice (some ⟨M2.length + 2, 0, none⟩) ks.length v3, .int .i64 need, .int .i64 after], 0, true⟩]).app (P := Tryz.prog) (B := 0) [⟨45, 0, [.int .i64 0, .int .i64 0, .slice none 0 0, .slice none 0 0], 0, true⟩, ⟨45, 0, [.int .i64 k, .int .i64 m, .slice a n v, .slice ad2 n2 v2], 0, true⟩] rfl (M2.length + 2 + 2) (by simp; omega) elZ43 elZ43 zOk43 (Nat.zero_le _) (⟨x, ⟨ks, need, after⟩⟩ : TOut) (U := [M2.length + 2]) hU (by simp) (by simp) (fun r hr => by have := hO.out.lt r hr; simp; omega) (by omega) (by omega)
        simp only [outE_sz, List.append_assoc, List.cons_append, List.nil_append] at hap
        have hI3 : Hid (SlO 2 128 refE M3 a n v ins S) := (hI.out.grow _).frame fun i hi => hfr i (by have := hI.out.lt _ hi; simp; omega) (hD.out _ hi)
        have hD3 : Hid (∀ r ∈ S, r ∉ S3) := fun r hr hr3 => by
          have := hI.out.lt r hr
          rcases hS3 r hr3 with h | h | h
          · exact hD.out r hr h
          · simp at h; omega
          · simp at h; omega
        have hO4 : Hid (SlO 2 120 outE M3 ad3 n3 v3' (pre ++ [(⟨x, ⟨ks, need, after⟩⟩ : TOut)]) S3) := hO3
        clear hU hO3 hI hO hD hS3 hfr
        repeat' (first | (refine KT.run _ ?_) | (refine AWp.seqH fun KC => ?_) | (refine AWp.region ?_) | (refine AWp.skip ?_) | (refine AWp.condB ?_) | (simp only [bse, wk, tys, storeH_ptr, Nat.reduceEqDiff, ↓reduceIte, reduceCtorEq, Nat.reduceAdd, Nat.reduceLeDiff, Int.reduceBEq, Int.reduceLT, Int.reduceLE, Int.reduceEq, ne_eq, not_false_eq_true, Nat.reduceMul, refE_val, refE_sz, outE_val, outE_sz, txE_val, txE_sz, ruleE_val, ruleE_sz, *]))
        exact hJ.out _ _ ⟨wo.length - (j + 1), by omega, j + 1, ad3, n3, v3', S3, M3, pre ++ [⟨x, ⟨ks, need, after⟩⟩], by omega, rfl, rfl, rfl, by simp [hpl], hI3, hO4, hD3, hB2, hS⟩ (by repeat (first | exact Agree.refl _ _ | assumption | refine Agree.put ?_ rfl _))
    · have hlt' : ¬ (j : Int) < (wo.length : Int) := by omega
      have hje : j = wo.length := by omega
      have hS : Hid (R = chkT t ⟨k, m, ins, pre⟩) := by unfold Hid; rw [hF.out, hje, List.drop_length]; simp [rdOuts, rdFin]
      have hfa := impl_TxFault ⟨k, m, ins, pre⟩ (by dsimp only; omega) (by dsimp only; omega) hB.out
      have htx := impl_txText ⟨k, m, ins, pre⟩
      have hbi := hI.out.bor
      have hbo := hO.out.bor
      have hba : ∀ b0 b1 : Blk, Bor (b0 :: b1 :: M2) (.agg #[.int .i64 k, .int .i64 m, .slice a n v, .slice ad2 n2 v2]) (txE.val ⟨k, m, ins, pre⟩) := fun b0 b1 => Bor.aggL (.cons (.same _ (.flat _ rfl)) (.cons (.same _ (.flat _ rfl)) (.cons (hbi [b0, b1] rfl) (.cons (hbo [b0, b1] rfl) .nil))))
      have hoi := hI.out.own
      have hoo := hO.out.own
      have hnd : (S ++ S2).Nodup := List.nodup_append.2 ⟨hI.out.nd, hO.out.nd, fun a ha b hb e => by subst e; exact hD.out a ha hb⟩
      have hown : ∀ (b0 b1 : Blk) (b : Bool), ∃ S : List Nat, S.Nodup ∧ OwnL false (b0 :: b1 :: M2) [.tuple #[.agg #[.int .i64 k, .int .i64 m, .slice a n v, .slice ad2 n2 v2], .bool b]] [.tuple #[txE.val ⟨k, m, ins, pre⟩, .bool b]] S := fun b0 b1 b =>
        ⟨S ++ S2, hnd, by
          have h1 := OwnL.aggL (OwnL.flat (v := .int .i64 k) rfl (OwnL.flat (v := .int .i64 m) rfl (OwnL.consL (hoi [b0, b1] rfl) (hoo [b0, b1] rfl))))
          have h2 := OwnL.tupL (OwnL.consL h1 (OwnL.flat (v := .bool b) rfl .nil))
          rw [List.append_nil] at h2
          exact h2.loose⟩
      clear hI hO hD hB hF hbi hbo hoi hoo hnd hwo hlo hje hj
      by_cases hf : txFault ⟨k, m, ins, pre⟩ = 0
      · rw [hf] at hfa
        have htx := htx hf
        have hR2 : R = (⟨k, m, ins, pre⟩, !decide (300 < (txT ⟨k, m, ins, pre⟩).length) && (txT ⟨k, m, ins, pre⟩ == t)) := by rw [hS.out]; unfold chkT; rw [if_pos hf]
        generalize txT ⟨k, m, ins, pre⟩ = T at htx hR2
        clear hf hS
        by_cases h3 : 300 < T.length
        · have hR3 : R = (⟨k, m, ins, pre⟩, false) := by rw [hR2, decide_eq_true h3]; rfl
          subst hR3
          rw [if_pos h3, if_pos h3] at htx
          clear hR2 h3
          repeat' (first | (refine KT.run _ ?_) | (refine AWp.seqH fun KC => ?_) | (refine AWp.region ?_) | (refine AWp.exit ?_) | (refine aops_callH rfl fun kC => ?_) | (refine AWp.condB ?_) | (simp only [bse, wk, tys, storeH_ptr, Nat.reduceEqDiff, ↓reduceIte, reduceCtorEq, Nat.reduceAdd, Nat.reduceLeDiff, Int.reduceBEq, Int.reduceLT, Int.reduceLE, Int.reduceEq, ne_eq, not_false_eq_true, Nat.reduceMul, refE_val, refE_sz, outE_val, outE_sz, txE_val, txE_sz, ruleE_val, ruleE_sz, *]))
          refine ACalls.ofP hfa (.cons (hba _ _) .nil) rfl ?_
          repeat' (first | (refine KV.run _ ?_) | (refine KT.run _ ?_) | (refine AWp.seqH fun KC => ?_) | (refine AWp.region ?_) | (refine AWp.skip ?_) | (refine aops_callH rfl fun kC => ?_) | (refine AWp.condB ?_) | (simp only [bse, wk, tys, storeH_ptr, Nat.reduceEqDiff, ↓reduceIte, reduceCtorEq, Nat.reduceAdd, Nat.reduceLeDiff, Int.reduceBEq, Int.reduceLT, Int.reduceLE, Int.reduceEq, ne_eq, not_false_eq_true, Nat.reduceMul, refE_val, refE_sz, outE_val, outE_sz, txE_val, txE_sz, ruleE_val, ruleE_sz, *]))
          refine ACalls.ofPT htx (.cons (hba _ _) .nil) (by simp [flatV]) ?_
          repeat' (first | (refine KV.run _ ?_) | (refine KT.run _ ?_) | (refine AWp.seqH fun KC => ?_) | (refine AWp.region ?_) | (refine AWp.ret ?_) | (simp only [bse, wk, tys, storeH_ptr, Nat.reduceEqDiff, ↓reduceIte, reduceCtorEq, Nat.reduceAdd, Nat.reduceLeDiff, Int.reduceBEq, Int.reduceLT, Int.reduceLE, Int.reduceEq, ne_eq, not_false_eq_true, Nat.reduceMul, refE_val, refE_sz, outE_val, outE_sz, txE_val, txE_sz, ruleE_val, ruleE_sz, *]))
          exact hown _ _ _
        · rw [if_neg h3, if_neg h3] at htx
          have hR3 : R = (⟨k, m, ins, pre⟩, T == t) := by rw [hR2, decide_eq_false h3]; rfl
          have hct : (bs T == bs t) = (T == t) := bs_beq T t
          obtain ⟨tb, htb⟩ : ∃ tb, tb = (T == t) := ⟨_, rfl⟩
          rw [← htb] at hR3 hct
          subst hR3
          clear hR2 h3 htb
          repeat' (first | (refine KT.run _ ?_) | (refine AWp.seqH fun KC => ?_) | (refine AWp.region ?_) | (refine AWp.exit ?_) | (refine aops_callH rfl fun kC => ?_) | (refine AWp.condB ?_) | (simp only [bse, wk, tys, storeH_ptr, Nat.reduceEqDiff, ↓reduceIte, reduceCtorEq, Nat.reduceAdd, Nat.reduceLeDiff, Int.reduceBEq, Int.reduceLT, Int.reduceLE, Int.reduceEq, ne_eq, not_false_eq_true, Nat.reduceMul, refE_val, refE_sz, outE_val, outE_sz, txE_val, txE_sz, ruleE_val, ruleE_sz, *]))
          refine ACalls.ofP hfa (.cons (hba _ _) .nil) rfl ?_
          repeat' (first | (refine KV.run _ ?_) | (refine KT.run _ ?_) | (refine AWp.seqH fun KC => ?_) | (refine AWp.region ?_) | (refine AWp.skip ?_) | (refine aops_callH rfl fun kC => ?_) | (refine AWp.condB ?_) | (simp only [bse, wk, tys, storeH_ptr, Nat.reduceEqDiff, ↓reduceIte, reduceCtorEq, Nat.reduceAdd, Nat.reduceLeDiff, Int.reduceBEq, Int.reduceLT, Int.reduceLE, Int.reduceEq, ne_eq, not_false_eq_true, Nat.reduceMul, refE_val, refE_sz, outE_val, outE_sz, txE_val, txE_sz, ruleE_val, ruleE_sz, *]))
          refine ACalls.ofPT htx (.cons (hba _ _) .nil) (by simp [flatV]) ?_
          repeat' (first | (refine KV.run _ ?_) | (refine KT.run _ ?_) | (refine AWp.seqH fun KC => ?_) | (refine AWp.region ?_) | (refine AWp.ret ?_) | (simp only [bse, wk, tys, storeH_ptr, Nat.reduceEqDiff, ↓reduceIte, reduceCtorEq, Nat.reduceAdd, Nat.reduceLeDiff, Int.reduceBEq, Int.reduceLT, Int.reduceLE, Int.reduceEq, ne_eq, not_false_eq_true, Nat.reduceMul, refE_val, refE_sz, outE_val, outE_sz, txE_val, txE_sz, ruleE_val, ruleE_sz, *]))
          exact hown _ _ _
      · have hR2 : R = (tx0, false) := by rw [hS.out]; unfold chkT; rw [if_neg hf]
        have hf' : (txFault ⟨k, m, ins, pre⟩ == 0) = false := by simpa using hf
        subst hR2
        clear htx hf hS hown
        generalize txFault ⟨k, m, ins, pre⟩ = F at hfa hf'
        repeat' (first | (refine KT.run _ ?_) | (refine AWp.seqH fun KC => ?_) | (refine AWp.region ?_) | (refine AWp.exit ?_) | (refine aops_callH rfl fun kC => ?_) | (refine AWp.condB ?_) | (simp only [bse, wk, tys, storeH_ptr, Nat.reduceEqDiff, ↓reduceIte, reduceCtorEq, Nat.reduceAdd, Nat.reduceLeDiff, Int.reduceBEq, Int.reduceLT, Int.reduceLE, Int.reduceEq, ne_eq, not_false_eq_true, Nat.reduceMul, refE_val, refE_sz, outE_val, outE_sz, txE_val, txE_sz, ruleE_val, ruleE_sz, *]))
        refine ACalls.ofP hfa (.cons (hba _ _) .nil) rfl ?_
        repeat' (first | (refine KV.run _ ?_) | (refine KT.run _ ?_) | (refine AWp.seqH fun KC => ?_) | (refine AWp.region ?_) | (refine AWp.ret ?_) | (refine AWp.condB ?_) | (simp only [bse, wk, tys, storeH_ptr, Nat.reduceEqDiff, ↓reduceIte, reduceCtorEq, Nat.reduceAdd, Nat.reduceLeDiff, Int.reduceBEq, Int.reduceLT, Int.reduceLE, Int.reduceEq, ne_eq, not_false_eq_true, Nat.reduceMul, refE_val, refE_sz, outE_val, outE_sz, txE_val, txE_sz, ruleE_val, ruleE_sz, *]))
        exact own_tx0 false
end Go.BM
/- A transaction, read out of a text: the program, whole. -/
set_option linter.unusedVariables false
set_option linter.unusedSimpArgs false
set_option maxRecDepth 100000
set_option maxHeartbeats 4000000
namespace Go.BM
open Go.Proofs Go.RowKit
attribute [local irreducible] ACalls AWp aops qops optK optP cK gateA condK mops qcallK PCalls loadV fldV idxV lenV slV storeH binS
theorem readTxF1 (t w0 : List UInt8) (ws : List (List UInt8)) (hw : cutL 32 t = w0 :: ws) (hb : (300 : Int) < (t.length : Int) ∨ (¬ (300 : Int) < (t.length : Int) ∧ kindK w0 < 0)) (ht : t.length ≤ 1000000) : NCalls Tryz.prog 56 [.string (bs t)] (.tuple #[txE.val tx0, .bool false]) := by
  have hsp := lib_SplitC t 32 (by omega)
  have hW : cutW 32 t = bs w0 :: ws.map bs := by unfold cutW; rw [hw]; rfl
  rw [hW] at hsp
  have hki := kind_index w0
  have ix0 : ∀ H : AH, idxV Tryz.prog H 22 (islE strE (bs w0 :: ws.map bs)) (.int .i64 0) = some (ip (.string (bs w0) :: strE.flat (ws.map bs))) := fun H => ix_cons H _ _
  have ld := ld_str
  have kw := kindWords_p
  generalize kindK w0 = k at hki hb
  generalize ws.map bs = W1 at hsp ix0
  clear hW hw ht
  rcases hb with h3 | ⟨h3, hk⟩
  · refine NCalls.of ?_; refine ACalls.enter (n := 125) (rs := [.cell 2 45, .tmp 3]) Tryz.func56 rfl rfl rfl (by kernel_rfl) (by kernel_rfl) (by kernel_rfl) (Nat.le_of_ble_eq_true rfl) ?_
    repeat' (first | (refine ACalls.start ?_; first | (refine ACalls.ofJi (hsp) rfl ?_)) | (refine KV.run _ ?_) | (refine KT.run _ ?_) | (refine AWp.seqH fun KC => ?_) | (refine AWp.region ?_) | (refine aops_callH rfl fun kC => ?_) | (simp only [bse, wk, tys, storeH_ptr, Nat.reduceEqDiff, ↓reduceIte, reduceCtorEq, Nat.reduceAdd, Nat.reduceLeDiff, Int.reduceBEq, Int.reduceLT, Int.reduceLE, Int.reduceEq, ne_eq, not_false_eq_true, Nat.reduceMul, refE_val, refE_sz, outE_val, outE_sz, txE_val, txE_sz, ruleE_val, ruleE_sz, *]))
    refine AWp.mixedT (id := 2) (.cons 1 0 (.cons 2 0 (.cons 3 0 (.alt 0 1 (.alt 4 1 (.cons 5 0 (.cons 6 1 (.cons 7 2 .nil))) (.cons 6 1 (.cons 4 1 (.cons 5 0 (.cons 7 2 .nil))))) (.cons 6 1 (.cons 0 1 (.cons 4 1 (.cons 5 0 (.cons 7 2 .nil))))))))) (by kernel_rfl) (by kernel_rfl) ?_
    refine mopsT_abs fun e0 he0 => ?_
    have r4 := congrFun he0 4
    try simp only [bse, wk, tys, storeH_ptr, Nat.reduceEqDiff, ↓reduceIte, reduceCtorEq, Nat.reduceAdd, Nat.reduceLeDiff, Int.reduceBEq, Int.reduceLT, Int.reduceLE, Int.reduceEq, ne_eq, not_false_eq_true, Nat.reduceMul, refE_val, refE_sz, outE_val, outE_sz, txE_val, txE_sz, ruleE_val, ruleE_sz] at r4
    have he1 : Hid _ := he0
    clear he0
    apply mopsT_cut
    case h1 =>
      repeat' (first | (refine mopsT_step0 rfl rfl fun KC => ?_) | (refine mopsT_step1 rfl fun KC => ?_) | (refine mopsT_step2 rfl fun KC => ?_) | (refine mopsT_alt1 rfl (fun KC => ?_) ?_) | (refine ACalls.start ?_; first | (refine ACalls.ofJi (kw) rfl ?_) | (refine ACalls.ofJi (hki) rfl ?_)) | (refine KV.run _ ?_) | (refine KT.run _ ?_) | (refine aops_callH rfl fun kC => ?_) | (simp only [bse, wk, tys, storeH_ptr, Nat.reduceEqDiff, ↓reduceIte, reduceCtorEq, Nat.reduceAdd, Nat.reduceLeDiff, Int.reduceBEq, Int.reduceLT, Int.reduceLE, Int.reduceEq, ne_eq, not_false_eq_true, Nat.reduceMul, refE_val, refE_sz, outE_val, outE_sz, txE_val, txE_sz, ruleE_val, ruleE_sz, *]))
      all_goals (first | exact ⟨rfl, rfl⟩ | (refine AtEH.mk (funext fun q => env_pt 5 q rfl fun hq5 => ?_) rfl; simp only [put, hq5, if_false]))
    have he2 := he1.out
    clear he1
    subst he2
    clear kw hki ix0
    repeat' (first | (refine KT.run _ ?_) | (refine AWp.seqH fun KC => ?_) | (refine AWp.region ?_) | (refine AWp.ret ?_) | (refine AWp.condB ?_) | (simp only [bse, wk, tys, storeH_ptr, Nat.reduceEqDiff, ↓reduceIte, reduceCtorEq, Nat.reduceAdd, Nat.reduceLeDiff, Int.reduceBEq, Int.reduceLT, Int.reduceLE, Int.reduceEq, ne_eq, not_false_eq_true, Nat.reduceMul, refE_val, refE_sz, outE_val, outE_sz, txE_val, txE_sz, ruleE_val, ruleE_sz, *]))
    all_goals exact own_tx0 false
  · refine NCalls.of ?_; refine ACalls.enter (n := 125) (rs := [.cell 2 45, .tmp 3]) Tryz.func56 rfl rfl rfl (by kernel_rfl) (by kernel_rfl) (by kernel_rfl) (Nat.le_of_ble_eq_true rfl) ?_
    repeat' (first | (refine ACalls.start ?_; first | (refine ACalls.ofJi (hsp) rfl ?_)) | (refine KV.run _ ?_) | (refine KT.run _ ?_) | (refine AWp.seqH fun KC => ?_) | (refine AWp.region ?_) | (refine aops_callH rfl fun kC => ?_) | (simp only [bse, wk, tys, storeH_ptr, Nat.reduceEqDiff, ↓reduceIte, reduceCtorEq, Nat.reduceAdd, Nat.reduceLeDiff, Int.reduceBEq, Int.reduceLT, Int.reduceLE, Int.reduceEq, ne_eq, not_false_eq_true, Nat.reduceMul, refE_val, refE_sz, outE_val, outE_sz, txE_val, txE_sz, ruleE_val, ruleE_sz, *]))
    refine AWp.mixedT (id := 2) (.cons 1 0 (.cons 2 0 (.cons 3 0 (.alt 0 1 (.alt 4 1 (.cons 5 0 (.cons 6 1 (.cons 7 2 .nil))) (.cons 6 1 (.cons 4 1 (.cons 5 0 (.cons 7 2 .nil))))) (.cons 6 1 (.cons 0 1 (.cons 4 1 (.cons 5 0 (.cons 7 2 .nil))))))))) (by kernel_rfl) (by kernel_rfl) ?_
    refine mopsT_abs fun e0 he0 => ?_
    have r4 := congrFun he0 4
    try simp only [bse, wk, tys, storeH_ptr, Nat.reduceEqDiff, ↓reduceIte, reduceCtorEq, Nat.reduceAdd, Nat.reduceLeDiff, Int.reduceBEq, Int.reduceLT, Int.reduceLE, Int.reduceEq, ne_eq, not_false_eq_true, Nat.reduceMul, refE_val, refE_sz, outE_val, outE_sz, txE_val, txE_sz, ruleE_val, ruleE_sz] at r4
    have he1 : Hid _ := he0
    clear he0
    apply mopsT_cut
    case h1 =>
      repeat' (first | (refine mopsT_step0 rfl rfl fun KC => ?_) | (refine mopsT_step1 rfl fun KC => ?_) | (refine mopsT_step2 rfl fun KC => ?_) | (refine mopsT_alt1 rfl (fun KC => ?_) ?_) | (refine ACalls.start ?_; first | (refine ACalls.ofJi (kw) rfl ?_) | (refine ACalls.ofJi (hki) rfl ?_)) | (refine KV.run _ ?_) | (refine KT.run _ ?_) | (refine aops_callH rfl fun kC => ?_) | (simp only [bse, wk, tys, storeH_ptr, Nat.reduceEqDiff, ↓reduceIte, reduceCtorEq, Nat.reduceAdd, Nat.reduceLeDiff, Int.reduceBEq, Int.reduceLT, Int.reduceLE, Int.reduceEq, ne_eq, not_false_eq_true, Nat.reduceMul, refE_val, refE_sz, outE_val, outE_sz, txE_val, txE_sz, ruleE_val, ruleE_sz, *]))
      all_goals (first | exact ⟨rfl, rfl⟩ | (refine AtEH.mk (funext fun q => env_pt 5 q rfl fun hq5 => ?_) rfl; simp only [put, hq5, if_false]))
    have he2 := he1.out
    clear he1
    subst he2
    clear kw hki ix0
    repeat' (first | (refine KT.run _ ?_) | (refine AWp.seqH fun KC => ?_) | (refine AWp.region ?_) | (refine AWp.ret ?_) | (refine AWp.condB ?_) | (simp only [bse, wk, tys, storeH_ptr, Nat.reduceEqDiff, ↓reduceIte, reduceCtorEq, Nat.reduceAdd, Nat.reduceLeDiff, Int.reduceBEq, Int.reduceLT, Int.reduceLE, Int.reduceEq, ne_eq, not_false_eq_true, Nat.reduceMul, refE_val, refE_sz, outE_val, outE_sz, txE_val, txE_sz, ruleE_val, ruleE_sz, *]))
    all_goals exact own_tx0 false
theorem readTxF2 (t w0 : List UInt8) (ws : List (List UInt8)) (k : Int) (hw : cutL 32 t = w0 :: ws) (hk : kindK w0 = k) (hk1 : ¬ k < 0) (hk0 : (k == 0) = true) (hb : (ws.length : Int) < 2 ∨ (¬ (ws.length : Int) < 2 ∧ (5 : Int) < (ws.length : Int))) (ht : t.length ≤ 300) : NCalls Tryz.prog 56 [.string (bs t)] (.tuple #[txE.val tx0, .bool false]) := by
  have hsp := lib_SplitC t 32 (by omega)
  have hW : cutW 32 t = bs w0 :: ws.map bs := by unfold cutW; rw [hw]; rfl
  rw [hW] at hsp
  have hki := kind_index w0
  rw [hk] at hki
  have ix0 : ∀ H : AH, idxV Tryz.prog H 22 (islE strE (bs w0 :: ws.map bs)) (.int .i64 0) = some (ip (.string (bs w0) :: strE.flat (ws.map bs))) := fun H => ix_cons H _ _
  have sl0 : ∀ H : AH, slV Tryz.prog H 22 (islE strE (bs w0 :: ws.map bs)) (some (.int .i64 1)) none none = some (islE strE (ws.map bs)) := fun H => sl_cons H _ _
  have ld := ld_str
  have kw := kindWords_p
  have h300 : ¬ (300 : Int) < (t.length : Int) := by omega
  have hml : (ws.map bs).length = ws.length := List.length_map ..
  obtain ⟨W1, hW1⟩ : ∃ W1, W1 = ws.map bs := ⟨_, rfl⟩
  rw [← hW1] at hsp ix0 sl0 hml
  obtain ⟨W0, hW0⟩ : ∃ W0, W0 = bs w0 :: W1 := ⟨_, rfl⟩
  rw [← hW0] at hsp ix0 sl0
  rw [← hml] at hb
  clear hW hw ht hW1 hW0 hk hml
  rcases hb with h3 | ⟨h3, h4⟩
  · refine NCalls.of ?_; refine ACalls.enter (n := 125) (rs := [.cell 2 45, .tmp 3]) Tryz.func56 rfl rfl rfl (by kernel_rfl) (by kernel_rfl) (by kernel_rfl) (Nat.le_of_ble_eq_true rfl) ?_
    repeat' (first | (refine ACalls.start ?_; first | (refine ACalls.ofJi (hsp) rfl ?_)) | (refine KV.run _ ?_) | (refine KT.run _ ?_) | (refine AWp.seqH fun KC => ?_) | (refine AWp.region ?_) | (refine aops_callH rfl fun kC => ?_) | (simp only [bse, wk, tys, storeH_ptr, Nat.reduceEqDiff, ↓reduceIte, reduceCtorEq, Nat.reduceAdd, Nat.reduceLeDiff, Int.reduceBEq, Int.reduceLT, Int.reduceLE, Int.reduceEq, ne_eq, not_false_eq_true, Nat.reduceMul, refE_val, refE_sz, outE_val, outE_sz, txE_val, txE_sz, ruleE_val, ruleE_sz, *]))
    refine AWp.mixedT (id := 2) (.cons 1 0 (.cons 2 0 (.cons 3 0 (.alt 0 1 (.alt 4 1 (.cons 5 0 (.cons 6 1 (.cons 7 2 .nil))) (.cons 6 1 (.cons 4 1 (.cons 5 0 (.cons 7 2 .nil))))) (.cons 6 1 (.cons 0 1 (.cons 4 1 (.cons 5 0 (.cons 7 2 .nil))))))))) (by kernel_rfl) (by kernel_rfl) ?_
    refine mopsT_abs fun e0 he0 => ?_
    have r4 := congrFun he0 4
    try simp only [bse, wk, tys, storeH_ptr, Nat.reduceEqDiff, ↓reduceIte, reduceCtorEq, Nat.reduceAdd, Nat.reduceLeDiff, Int.reduceBEq, Int.reduceLT, Int.reduceLE, Int.reduceEq, ne_eq, not_false_eq_true, Nat.reduceMul, refE_val, refE_sz, outE_val, outE_sz, txE_val, txE_sz, ruleE_val, ruleE_sz] at r4
    have he1 : Hid _ := he0
    clear he0
    apply mopsT_cut
    case h1 =>
      repeat' (first | (refine mopsT_step0 rfl rfl fun KC => ?_) | (refine mopsT_step1 rfl fun KC => ?_) | (refine mopsT_step2 rfl fun KC => ?_) | (refine mopsT_alt1 rfl (fun KC => ?_) ?_) | (refine ACalls.start ?_; first | (refine ACalls.ofJi (kw) rfl ?_) | (refine ACalls.ofJi (hki) rfl ?_)) | (refine KV.run _ ?_) | (refine KT.run _ ?_) | (refine aops_callH rfl fun kC => ?_) | (simp only [bse, wk, tys, storeH_ptr, Nat.reduceEqDiff, ↓reduceIte, reduceCtorEq, Nat.reduceAdd, Nat.reduceLeDiff, Int.reduceBEq, Int.reduceLT, Int.reduceLE, Int.reduceEq, ne_eq, not_false_eq_true, Nat.reduceMul, refE_val, refE_sz, outE_val, outE_sz, txE_val, txE_sz, ruleE_val, ruleE_sz, *]))
      all_goals (first | exact ⟨rfl, rfl⟩ | (refine AtEH.mk (funext fun q => env_pt 5 q rfl fun hq5 => ?_) rfl; simp only [put, hq5, if_false]))
    have he2 := he1.out
    clear he1
    subst he2
    clear kw hki ix0
    repeat' (first | (refine KT.run _ ?_) | (refine AWp.seqH fun KC => ?_) | (refine AWp.region ?_) | (refine AWp.ret ?_) | (refine AWp.skip ?_) | (refine AWp.condB ?_) | (simp only [bse, wk, tys, storeH_ptr, Nat.reduceEqDiff, ↓reduceIte, reduceCtorEq, Nat.reduceAdd, Nat.reduceLeDiff, Int.reduceBEq, Int.reduceLT, Int.reduceLE, Int.reduceEq, ne_eq, not_false_eq_true, Nat.reduceMul, refE_val, refE_sz, outE_val, outE_sz, txE_val, txE_sz, ruleE_val, ruleE_sz, *]))
    all_goals exact own_tx0 false
  · refine NCalls.of ?_; refine ACalls.enter (n := 125) (rs := [.cell 2 45, .tmp 3]) Tryz.func56 rfl rfl rfl (by kernel_rfl) (by kernel_rfl) (by kernel_rfl) (Nat.le_of_ble_eq_true rfl) ?_
    repeat' (first | (refine ACalls.start ?_; first | (refine ACalls.ofJi (hsp) rfl ?_)) | (refine KV.run _ ?_) | (refine KT.run _ ?_) | (refine AWp.seqH fun KC => ?_) | (refine AWp.region ?_) | (refine aops_callH rfl fun kC => ?_) | (simp only [bse, wk, tys, storeH_ptr, Nat.reduceEqDiff, ↓reduceIte, reduceCtorEq, Nat.reduceAdd, Nat.reduceLeDiff, Int.reduceBEq, Int.reduceLT, Int.reduceLE, Int.reduceEq, ne_eq, not_false_eq_true, Nat.reduceMul, refE_val, refE_sz, outE_val, outE_sz, txE_val, txE_sz, ruleE_val, ruleE_sz, *]))
    refine AWp.mixedT (id := 2) (.cons 1 0 (.cons 2 0 (.cons 3 0 (.alt 0 1 (.alt 4 1 (.cons 5 0 (.cons 6 1 (.cons 7 2 .nil))) (.cons 6 1 (.cons 4 1 (.cons 5 0 (.cons 7 2 .nil))))) (.cons 6 1 (.cons 0 1 (.cons 4 1 (.cons 5 0 (.cons 7 2 .nil))))))))) (by kernel_rfl) (by kernel_rfl) ?_
    refine mopsT_abs fun e0 he0 => ?_
    have r4 := congrFun he0 4
    try simp only [bse, wk, tys, storeH_ptr, Nat.reduceEqDiff, ↓reduceIte, reduceCtorEq, Nat.reduceAdd, Nat.reduceLeDiff, Int.reduceBEq, Int.reduceLT, Int.reduceLE, Int.reduceEq, ne_eq, not_false_eq_true, Nat.reduceMul, refE_val, refE_sz, outE_val, outE_sz, txE_val, txE_sz, ruleE_val, ruleE_sz] at r4
    have he1 : Hid _ := he0
    clear he0
    apply mopsT_cut
    case h1 =>
      repeat' (first | (refine mopsT_step0 rfl rfl fun KC => ?_) | (refine mopsT_step1 rfl fun KC => ?_) | (refine mopsT_step2 rfl fun KC => ?_) | (refine mopsT_alt1 rfl (fun KC => ?_) ?_) | (refine ACalls.start ?_; first | (refine ACalls.ofJi (kw) rfl ?_) | (refine ACalls.ofJi (hki) rfl ?_)) | (refine KV.run _ ?_) | (refine KT.run _ ?_) | (refine aops_callH rfl fun kC => ?_) | (simp only [bse, wk, tys, storeH_ptr, Nat.reduceEqDiff, ↓reduceIte, reduceCtorEq, Nat.reduceAdd, Nat.reduceLeDiff, Int.reduceBEq, Int.reduceLT, Int.reduceLE, Int.reduceEq, ne_eq, not_false_eq_true, Nat.reduceMul, refE_val, refE_sz, outE_val, outE_sz, txE_val, txE_sz, ruleE_val, ruleE_sz, *]))
      all_goals (first | exact ⟨rfl, rfl⟩ | (refine AtEH.mk (funext fun q => env_pt 5 q rfl fun hq5 => ?_) rfl; simp only [put, hq5, if_false]))
    have he2 := he1.out
    clear he1
    subst he2
    clear kw hki ix0
    repeat' (first | (refine KT.run _ ?_) | (refine AWp.seqH fun KC => ?_) | (refine AWp.region ?_) | (refine AWp.ret ?_) | (refine AWp.skip ?_) | (refine AWp.condB ?_) | (simp only [bse, wk, tys, storeH_ptr, Nat.reduceEqDiff, ↓reduceIte, reduceCtorEq, Nat.reduceAdd, Nat.reduceLeDiff, Int.reduceBEq, Int.reduceLT, Int.reduceLE, Int.reduceEq, ne_eq, not_false_eq_true, Nat.reduceMul, refE_val, refE_sz, outE_val, outE_sz, txE_val, txE_sz, ruleE_val, ruleE_sz, *]))
    all_goals exact own_tx0 false
theorem readTxF3 (t w0 : List UInt8) (k : Int) (hw : cutL 32 t = [w0]) (hk : kindK w0 = k) (hk1 : ¬ k < 0) (hk0 : (k == 0) = false) (ht : t.length ≤ 300) : NCalls Tryz.prog 56 [.string (bs t)] (.tuple #[txE.val tx0, .bool false]) := by
  have hsp := lib_SplitC t 32 (by omega)
  have hW : cutW 32 t = [bs w0] := by unfold cutW; rw [hw]; rfl
  rw [hW] at hsp
  have hki := kind_index w0
  rw [hk] at hki
  have ix0 : ∀ H : AH, idxV Tryz.prog H 22 (islE strE [bs w0]) (.int .i64 0) = some (ip (.string (bs w0) :: strE.flat [])) := fun H => ix_cons H _ _
  have sl0 : ∀ H : AH, slV Tryz.prog H 22 (islE strE [bs w0]) (some (.int .i64 1)) none none = some (islE strE []) := fun H => sl_cons H _ _
  have ld := ld_str
  have kw := kindWords_p
  have h300 : ¬ (300 : Int) < (t.length : Int) := by omega
  obtain ⟨W1, hW1⟩ : ∃ W1 : List ByteArray, W1 = [] := ⟨_, rfl⟩
  rw [← hW1] at hsp ix0 sl0
  obtain ⟨W0, hW0⟩ : ∃ W0, W0 = bs w0 :: W1 := ⟨_, rfl⟩
  rw [← hW0] at hsp ix0 sl0
  have h3 : (W1.length : Int) < 2 := by rw [hW1]; simp
  have h4 : ¬ (0 : Int) < (W1.length : Int) := by rw [hW1]; simp
  clear hW hw ht hW1 hW0 hk
  refine NCalls.of ?_; refine ACalls.enter (n := 125) (rs := [.cell 2 45, .tmp 3]) Tryz.func56 rfl rfl rfl (by kernel_rfl) (by kernel_rfl) (by kernel_rfl) (Nat.le_of_ble_eq_true rfl) ?_
  repeat' (first | (refine ACalls.start ?_; first | (refine ACalls.ofJi (hsp) rfl ?_)) | (refine KV.run _ ?_) | (refine KT.run _ ?_) | (refine AWp.seqH fun KC => ?_) | (refine AWp.region ?_) | (refine aops_callH rfl fun kC => ?_) | (simp only [bse, wk, tys, storeH_ptr, Nat.reduceEqDiff, ↓reduceIte, reduceCtorEq, Nat.reduceAdd, Nat.reduceLeDiff, Int.reduceBEq, Int.reduceLT, Int.reduceLE, Int.reduceEq, ne_eq, not_false_eq_true, Nat.reduceMul, refE_val, refE_sz, outE_val, outE_sz, txE_val, txE_sz, ruleE_val, ruleE_sz, *]))
  refine AWp.mixedT (id := 2) (.cons 1 0 (.cons 2 0 (.cons 3 0 (.alt 0 1 (.alt 4 1 (.cons 5 0 (.cons 6 1 (.cons 7 2 .nil))) (.cons 6 1 (.cons 4 1 (.cons 5 0 (.cons 7 2 .nil))))) (.cons 6 1 (.cons 0 1 (.cons 4 1 (.cons 5 0 (.cons 7 2 .nil))))))))) (by kernel_rfl) (by kernel_rfl) ?_
  refine mopsT_abs fun e0 he0 => ?_
  have r4 := congrFun he0 4
  try simp only [bse, wk, tys, storeH_ptr, Nat.reduceEqDiff, ↓reduceIte, reduceCtorEq, Nat.reduceAdd, Nat.reduceLeDiff, Int.reduceBEq, Int.reduceLT, Int.reduceLE, Int.reduceEq, ne_eq, not_false_eq_true, Nat.reduceMul, refE_val, refE_sz, outE_val, outE_sz, txE_val, txE_sz, ruleE_val, ruleE_sz] at r4
  have he1 : Hid _ := he0
  clear he0
  apply mopsT_cut
  case h1 =>
    repeat' (first | (refine mopsT_step0 rfl rfl fun KC => ?_) | (refine mopsT_step1 rfl fun KC => ?_) | (refine mopsT_step2 rfl fun KC => ?_) | (refine mopsT_alt1 rfl (fun KC => ?_) ?_) | (refine ACalls.start ?_; first | (refine ACalls.ofJi (kw) rfl ?_) | (refine ACalls.ofJi (hki) rfl ?_)) | (refine KV.run _ ?_) | (refine KT.run _ ?_) | (refine aops_callH rfl fun kC => ?_) | (simp only [bse, wk, tys, storeH_ptr, Nat.reduceEqDiff, ↓reduceIte, reduceCtorEq, Nat.reduceAdd, Nat.reduceLeDiff, Int.reduceBEq, Int.reduceLT, Int.reduceLE, Int.reduceEq, ne_eq, not_false_eq_true, Nat.reduceMul, refE_val, refE_sz, outE_val, outE_sz, txE_val, txE_sz, ruleE_val, ruleE_sz, *]))
    all_goals (first | exact ⟨rfl, rfl⟩ | (refine AtEH.mk (funext fun q => env_pt 5 q rfl fun hq5 => ?_) rfl; simp only [put, hq5, if_false]))
  have he2 := he1.out
  clear he1
  subst he2
  clear kw hki ix0
  repeat' (first | (refine KT.run _ ?_) | (refine AWp.seqH fun KC => ?_) | (refine AWp.region ?_) | (refine AWp.ret ?_) | (refine AWp.skip ?_) | (refine AWp.condB ?_) | (simp only [bse, wk, tys, storeH_ptr, Nat.reduceEqDiff, ↓reduceIte, reduceCtorEq, Nat.reduceAdd, Nat.reduceLeDiff, Int.reduceBEq, Int.reduceLT, Int.reduceLE, Int.reduceEq, ne_eq, not_false_eq_true, Nat.reduceMul, refE_val, refE_sz, outE_val, outE_sz, txE_val, txE_sz, ruleE_val, ruleE_sz, *]))
  all_goals exact own_tx0 false
theorem readTxF4 (t w0 wm : List UInt8) (ws : List (List UInt8)) (k : Int) (hw : cutL 32 t = w0 :: wm :: ws) (hk : kindK w0 = k) (hk1 : ¬ k < 0) (hk0 : (k == 0) = false) (hb : (ws.length : Int) < 2 ∨ (¬ (ws.length : Int) < 2 ∧ (5 : Int) < (ws.length : Int))) (ht : t.length ≤ 300) : NCalls Tryz.prog 56 [.string (bs t)] (.tuple #[txE.val tx0, .bool false]) := by
  have hsp := lib_SplitC t 32 (by omega)
  have hlt := cutL_mem 32 t
  rw [hw] at hlt
  have nm : PCalls Tryz.prog 74 [.string (bs wm)] (.int .i64 (numL wm)) := lib_number (bs wm) (by rw [bs_size]; have := hlt wm (by simp); omega)
  have hW : cutW 32 t = bs w0 :: bs wm :: ws.map bs := by unfold cutW; rw [hw]; rfl
  rw [hW] at hsp
  have hki := kind_index w0
  rw [hk] at hki
  have ix0 : ∀ H : AH, idxV Tryz.prog H 22 (islE strE (bs w0 :: bs wm :: ws.map bs)) (.int .i64 0) = some (ip (.string (bs w0) :: strE.flat (bs wm :: ws.map bs))) := fun H => ix_cons H _ _
  have sl0 : ∀ H : AH, slV Tryz.prog H 22 (islE strE (bs w0 :: bs wm :: ws.map bs)) (some (.int .i64 1)) none none = some (islE strE (bs wm :: ws.map bs)) := fun H => sl_cons H _ _
  have ix1 : ∀ H : AH, idxV Tryz.prog H 22 (islE strE (bs wm :: ws.map bs)) (.int .i64 0) = some (ip (.string (bs wm) :: strE.flat (ws.map bs))) := fun H => ix_cons H _ _
  have sl1 : ∀ H : AH, slV Tryz.prog H 22 (islE strE (bs wm :: ws.map bs)) (some (.int .i64 1)) none none = some (islE strE (ws.map bs)) := fun H => sl_cons H _ _
  have ld := ld_str
  have kw := kindWords_p
  have h300 : ¬ (300 : Int) < (t.length : Int) := by omega
  have hml : (ws.map bs).length = ws.length := List.length_map ..
  obtain ⟨W1, hW1⟩ : ∃ W1, W1 = ws.map bs := ⟨_, rfl⟩
  rw [← hW1] at hsp ix0 sl0 hml ix1 sl1
  obtain ⟨W2, hW2⟩ : ∃ W2, W2 = bs wm :: W1 := ⟨_, rfl⟩
  rw [← hW2] at hsp ix0 sl0 ix1 sl1
  obtain ⟨W0, hW0⟩ : ∃ W0, W0 = bs w0 :: W2 := ⟨_, rfl⟩
  rw [← hW0] at hsp ix0 sl0
  have q3 : (0 : Int) < (W2.length : Int) := by rw [hW2, List.length_cons]; omega
  rw [← hml] at hb
  clear hW hw ht hW1 hW2 hW0 hk hml hlt
  generalize numL wm = m at nm
  rcases hb with h3 | ⟨h3, h4⟩
  · refine NCalls.of ?_; refine ACalls.enter (n := 125) (rs := [.cell 2 45, .tmp 3]) Tryz.func56 rfl rfl rfl (by kernel_rfl) (by kernel_rfl) (by kernel_rfl) (Nat.le_of_ble_eq_true rfl) ?_
    repeat' (first | (refine ACalls.start ?_; first | (refine ACalls.ofJi (hsp) rfl ?_)) | (refine KV.run _ ?_) | (refine KT.run _ ?_) | (refine AWp.seqH fun KC => ?_) | (refine AWp.region ?_) | (refine aops_callH rfl fun kC => ?_) | (simp only [bse, wk, tys, storeH_ptr, Nat.reduceEqDiff, ↓reduceIte, reduceCtorEq, Nat.reduceAdd, Nat.reduceLeDiff, Int.reduceBEq, Int.reduceLT, Int.reduceLE, Int.reduceEq, ne_eq, not_false_eq_true, Nat.reduceMul, refE_val, refE_sz, outE_val, outE_sz, txE_val, txE_sz, ruleE_val, ruleE_sz, *]))
    refine AWp.mixedT (id := 2) (.cons 1 0 (.cons 2 0 (.cons 3 0 (.alt 0 1 (.alt 4 1 (.cons 5 0 (.cons 6 1 (.cons 7 2 .nil))) (.cons 6 1 (.cons 4 1 (.cons 5 0 (.cons 7 2 .nil))))) (.cons 6 1 (.cons 0 1 (.cons 4 1 (.cons 5 0 (.cons 7 2 .nil))))))))) (by kernel_rfl) (by kernel_rfl) ?_
    refine mopsT_abs fun e0 he0 => ?_
    have r4 := congrFun he0 4
    try simp only [bse, wk, tys, storeH_ptr, Nat.reduceEqDiff, ↓reduceIte, reduceCtorEq, Nat.reduceAdd, Nat.reduceLeDiff, Int.reduceBEq, Int.reduceLT, Int.reduceLE, Int.reduceEq, ne_eq, not_false_eq_true, Nat.reduceMul, refE_val, refE_sz, outE_val, outE_sz, txE_val, txE_sz, ruleE_val, ruleE_sz] at r4
    have he1 : Hid _ := he0
    clear he0
    apply mopsT_cut
    case h1 =>
      repeat' (first | (refine mopsT_step0 rfl rfl fun KC => ?_) | (refine mopsT_step1 rfl fun KC => ?_) | (refine mopsT_step2 rfl fun KC => ?_) | (refine mopsT_alt1 rfl (fun KC => ?_) ?_) | (refine ACalls.start ?_; first | (refine ACalls.ofJi (kw) rfl ?_) | (refine ACalls.ofJi (hki) rfl ?_)) | (refine KV.run _ ?_) | (refine KT.run _ ?_) | (refine aops_callH rfl fun kC => ?_) | (simp only [bse, wk, tys, storeH_ptr, Nat.reduceEqDiff, ↓reduceIte, reduceCtorEq, Nat.reduceAdd, Nat.reduceLeDiff, Int.reduceBEq, Int.reduceLT, Int.reduceLE, Int.reduceEq, ne_eq, not_false_eq_true, Nat.reduceMul, refE_val, refE_sz, outE_val, outE_sz, txE_val, txE_sz, ruleE_val, ruleE_sz, *]))
      all_goals (first | exact ⟨rfl, rfl⟩ | (refine AtEH.mk (funext fun q => env_pt 5 q rfl fun hq5 => ?_) rfl; simp only [put, hq5, if_false]))
    have he2 := he1.out
    clear he1
    subst he2
    clear kw hki ix0
    repeat' (first | (refine ACalls.start ?_; first | (refine ACalls.ofJi (nm) rfl ?_)) | (refine KV.run _ ?_) | (refine KT.run _ ?_) | (refine AWp.seqH fun KC => ?_) | (refine AWp.region ?_) | (refine AWp.ret ?_) | (refine AWp.skip ?_) | (refine aops_callH rfl fun kC => ?_) | (refine AWp.condB ?_) | (simp only [bse, wk, tys, storeH_ptr, Nat.reduceEqDiff, ↓reduceIte, reduceCtorEq, Nat.reduceAdd, Nat.reduceLeDiff, Int.reduceBEq, Int.reduceLT, Int.reduceLE, Int.reduceEq, ne_eq, not_false_eq_true, Nat.reduceMul, refE_val, refE_sz, outE_val, outE_sz, txE_val, txE_sz, ruleE_val, ruleE_sz, *]))
    all_goals exact own_tx0 false
  · refine NCalls.of ?_; refine ACalls.enter (n := 125) (rs := [.cell 2 45, .tmp 3]) Tryz.func56 rfl rfl rfl (by kernel_rfl) (by kernel_rfl) (by kernel_rfl) (Nat.le_of_ble_eq_true rfl) ?_
    repeat' (first | (refine ACalls.start ?_; first | (refine ACalls.ofJi (hsp) rfl ?_)) | (refine KV.run _ ?_) | (refine KT.run _ ?_) | (refine AWp.seqH fun KC => ?_) | (refine AWp.region ?_) | (refine aops_callH rfl fun kC => ?_) | (simp only [bse, wk, tys, storeH_ptr, Nat.reduceEqDiff, ↓reduceIte, reduceCtorEq, Nat.reduceAdd, Nat.reduceLeDiff, Int.reduceBEq, Int.reduceLT, Int.reduceLE, Int.reduceEq, ne_eq, not_false_eq_true, Nat.reduceMul, refE_val, refE_sz, outE_val, outE_sz, txE_val, txE_sz, ruleE_val, ruleE_sz, *]))
    refine AWp.mixedT (id := 2) (.cons 1 0 (.cons 2 0 (.cons 3 0 (.alt 0 1 (.alt 4 1 (.cons 5 0 (.cons 6 1 (.cons 7 2 .nil))) (.cons 6 1 (.cons 4 1 (.cons 5 0 (.cons 7 2 .nil))))) (.cons 6 1 (.cons 0 1 (.cons 4 1 (.cons 5 0 (.cons 7 2 .nil))))))))) (by kernel_rfl) (by kernel_rfl) ?_
    refine mopsT_abs fun e0 he0 => ?_
    have r4 := congrFun he0 4
    try simp only [bse, wk, tys, storeH_ptr, Nat.reduceEqDiff, ↓reduceIte, reduceCtorEq, Nat.reduceAdd, Nat.reduceLeDiff, Int.reduceBEq, Int.reduceLT, Int.reduceLE, Int.reduceEq, ne_eq, not_false_eq_true, Nat.reduceMul, refE_val, refE_sz, outE_val, outE_sz, txE_val, txE_sz, ruleE_val, ruleE_sz] at r4
    have he1 : Hid _ := he0
    clear he0
    apply mopsT_cut
    case h1 =>
      repeat' (first | (refine mopsT_step0 rfl rfl fun KC => ?_) | (refine mopsT_step1 rfl fun KC => ?_) | (refine mopsT_step2 rfl fun KC => ?_) | (refine mopsT_alt1 rfl (fun KC => ?_) ?_) | (refine ACalls.start ?_; first | (refine ACalls.ofJi (kw) rfl ?_) | (refine ACalls.ofJi (hki) rfl ?_)) | (refine KV.run _ ?_) | (refine KT.run _ ?_) | (refine aops_callH rfl fun kC => ?_) | (simp only [bse, wk, tys, storeH_ptr, Nat.reduceEqDiff, ↓reduceIte, reduceCtorEq, Nat.reduceAdd, Nat.reduceLeDiff, Int.reduceBEq, Int.reduceLT, Int.reduceLE, Int.reduceEq, ne_eq, not_false_eq_true, Nat.reduceMul, refE_val, refE_sz, outE_val, outE_sz, txE_val, txE_sz, ruleE_val, ruleE_sz, *]))
      all_goals (first | exact ⟨rfl, rfl⟩ | (refine AtEH.mk (funext fun q => env_pt 5 q rfl fun hq5 => ?_) rfl; simp only [put, hq5, if_false]))
    have he2 := he1.out
    clear he1
    subst he2
    clear kw hki ix0
    repeat' (first | (refine ACalls.start ?_; first | (refine ACalls.ofJi (nm) rfl ?_)) | (refine KV.run _ ?_) | (refine KT.run _ ?_) | (refine AWp.seqH fun KC => ?_) | (refine AWp.region ?_) | (refine AWp.ret ?_) | (refine AWp.skip ?_) | (refine aops_callH rfl fun kC => ?_) | (refine AWp.condB ?_) | (simp only [bse, wk, tys, storeH_ptr, Nat.reduceEqDiff, ↓reduceIte, reduceCtorEq, Nat.reduceAdd, Nat.reduceLeDiff, Int.reduceBEq, Int.reduceLT, Int.reduceLE, Int.reduceEq, ne_eq, not_false_eq_true, Nat.reduceMul, refE_val, refE_sz, outE_val, outE_sz, txE_val, txE_sz, ruleE_val, ruleE_sz, *]))
    all_goals exact own_tx0 false
theorem kindK_range (w : List UInt8) : kindK w = 0 ∨ kindK w = 1 ∨ kindK w = 2 ∨ kindK w = -1 := by
  unfold kindK
  split
  · exact .inl rfl
  · split
    · exact .inr (.inl rfl)
    · split
      · exact .inr (.inr (.inl rfl))
      · exact .inr (.inr (.inr rfl))
theorem impl_readTx (t : List UInt8) (ht : t.length ≤ 1000000) : NCalls Tryz.prog 56 [.string (bs t)] (.tuple #[txE.val (readT t).1, .bool (readT t).2]) := by
  obtain ⟨w0, ws, hw⟩ : ∃ w0 ws, cutL 32 t = w0 :: ws := by
    cases h : cutL 32 t with
    | nil => exact absurd h (cutL_ne 32 t)
    | cons a l => exact ⟨a, l, rfl⟩
  unfold readT
  by_cases h3 : 300 < t.length
  · rw [if_pos h3]
    exact readTxF1 t w0 ws hw (.inl (by omega)) ht
  rw [if_neg h3, hw]
  dsimp only
  have h3' : t.length ≤ 300 := by omega
  rcases kindK_range w0 with hk | hk
  · rw [if_pos hk]
    unfold rdBody
    match ws, hw with
    | [], hw => exact readTxF2 t w0 [] 0 hw hk (by decide) rfl (.inl (by simp)) h3'
    | wi :: wo, hw =>
      dsimp only
      by_cases hl : wo.length < 1 ∨ 4 < wo.length
      · rw [if_pos hl]
        refine readTxF2 t w0 (wi :: wo) 0 hw hk (by decide) rfl ?_ h3'
        rw [List.length_cons]
        omega
      · rw [if_neg hl]
        exact readTxP t w0 wi wo 0 hw hk (by decide) rfl (by omega) h3'
  · have hn0 : ¬ kindK w0 = 0 := by omega
    rw [if_neg hn0]
    by_cases hneg : kindK w0 < 0
    · rw [if_pos hneg]
      exact readTxF1 t w0 ws hw (.inr ⟨by omega, hneg⟩) ht
    · rw [if_neg hneg]
      have hk0 : (kindK w0 == 0) = false := by simpa using hn0
      match ws, hw with
      | [], hw => exact readTxF3 t w0 _ hw rfl hneg hk0 h3'
      | [wm], hw => exact readTxF4 t w0 wm [] _ hw rfl hneg hk0 (.inl (by simp)) h3'
      | wm :: wi :: wo, hw =>
        dsimp only
        unfold rdBody
        dsimp only
        by_cases hl : wo.length < 1 ∨ 4 < wo.length
        · rw [if_pos hl]
          refine readTxF4 t w0 wm (wi :: wo) _ hw rfl hneg hk0 ?_ h3'
          rw [List.length_cons]
          omega
        · rw [if_neg hl]
          exact readTxK t w0 wm wi wo _ hw rfl hneg hk0 (by omega) h3'
end Go.BM
/- BlockIn: the program. -/
set_option linter.unusedVariables false
set_option linter.unusedSimpArgs false
set_option maxRecDepth 100000
set_option maxHeartbeats 4000000
namespace Go.BM
open Go.Proofs Go.RowKit
attribute [local irreducible] ACalls AWp aops qops optK optP cK gateA condK mops qcallK PCalls loadV fldV idxV lenV slV storeH binS
theorem lf_texts {l : TLedger} (h : ledgerFault l = 0) : ∀ s ∈ l.texts, s.size ≤ 300 := by
  have hsc : ∀ (K : Int) (xs pre : List ByteArray), scanK txF K pre xs = 0 → ∀ x ∈ xs, x.size ≤ 300 := fun K xs => by
    induction xs with
    | nil => intro pre _ x hx; simp at hx
    | cons y l ih =>
      intro pre h x hx
      unfold scanK at h
      split at h
      · rename_i h0
        rcases List.mem_cons.1 hx with rfl | hx
        · unfold txF at h0
          split at h0
          · simp at h0
          · rename_i h1; unfold textB inB at h1; simp at h1; omega
        · exact ih _ h x hx
      · rename_i h0; exact absurd (by rw [h]; rfl) h0
  unfold ledgerFault at h
  split at h
  · omega
  · exact hsc _ _ _ h
theorem getS_size {l : TLedger} {id : Int} (h : ledgerFault l = 0) (hc : inB id 1 l.texts.length = true) : (getS l.texts id).size ≤ 300 := by
  obtain ⟨k, hk, rfl⟩ := inB_nat hc
  rw [getS_at hk]
  exact lf_texts h _ (List.getElem_mem hk)
end Go.BM
/- TxIn: the program. -/
set_option linter.unusedVariables false
set_option linter.unusedSimpArgs false
set_option maxRecDepth 100000
set_option maxHeartbeats 4000000
namespace Go.BM
open Go.Proofs Go.RowKit
attribute [local irreducible] ACalls AWp aops qops optK optP cK gateA condK mops qcallK PCalls loadV fldV idxV lenV slV storeH binS
theorem own_txI {x : Bool} {H : AH} {d v2 : Value} {S : List Nat} {k m : Int} {ins : List TRef} {outs : List TOut} (h : OwnL x H [d] [.tuple #[.agg #[.int .i64 k, .int .i64 m, islE refE ins, islE outE outs], v2]] S) (hv : flatV v2 = true) :
    ∃ (a a2 : Option Addr) (n ver n2 ver2 : Nat) (S1 S2 : List Nat), d = .tuple #[.agg #[.int .i64 k, .int .i64 m, .slice a n ver, .slice a2 n2 ver2], v2] ∧ S = S1 ++ S2 ∧ OwnL x H [.slice a n ver] [islE refE ins] S1 ∧ OwnL x H [.slice a2 n2 ver2] [islE outE outs] S2 := by
  obtain ⟨ys, rfl, o1⟩ := OwnL.tupI (ys := [.agg #[.int .i64 k, .int .i64 m, islE refE ins, islE outE outs], v2]) h
  obtain ⟨d1, m1, S1, R1, rfl, rfl, p1, o2⟩ := OwnL.consI o1
  obtain ⟨m2, rfl, o3⟩ := OwnL.flatI o2 hv
  obtain ⟨rfl, rfl⟩ := OwnL.nilI o3
  obtain ⟨xs, rfl, q1⟩ := OwnL.aggI (ys := [.int .i64 k, .int .i64 m, islE refE ins, islE outE outs]) p1
  obtain ⟨m3, rfl, q2⟩ := OwnL.flatI q1 rfl
  obtain ⟨m4, rfl, q3⟩ := OwnL.flatI q2 rfl
  obtain ⟨d6, m6, S6, R6, rfl, rfl, p6, q5⟩ := OwnL.consI q3
  obtain ⟨d7, m7, S7, R7, rfl, rfl, p7, q6⟩ := OwnL.consI q5
  obtain ⟨rfl, rfl⟩ := OwnL.nilI q6
  obtain ⟨a, n, ver, rfl⟩ := p6.slD
  obtain ⟨a2, n2, ver2, rfl⟩ := p7.slD
  exact ⟨a, a2, n, ver, n2, ver2, S6, S7, rfl, by simp, p6, p7⟩
theorem own_two {x : Bool} {b0 b1 : Blk} {M : AH} {l l' : List Value} {T : List Nat} (p : OwnL x (b0 :: b1 :: M) l l' T) (hT : ∀ r ∈ T, 2 ≤ r) (c0 c1 : Blk) (L : AH) : OwnL x (c0 :: c1 :: (M ++ L)) l l' T := (p.app L).frame fun r hr => by
  have := hT r hr
  obtain ⟨q, rfl⟩ : ∃ q, r = q + 2 := ⟨r - 2, by omega⟩
  rfl
def txInP (l : TLedger) (id : Int) : TTx × Int :=
  if !inB id 1 l.texts.length then (tx0, 3) else if (readT (getS l.texts id).data.toList).2 then ((readT (getS l.texts id).data.toList).1, 0) else (tx0, 5)
def txInF (l : TLedger) (id : Int) : TTxResult := if !(ledgerFault l == 0) then ⟨ledgerFault l, tx0⟩ else ⟨(txInP l id).2, (txInP l id).1⟩
theorem own_txt {H : AH} (c : Int) : ∃ S : List Nat, S.Nodup ∧ OwnL false H [.tuple #[.agg #[.int .i64 0, .int .i64 0, .slice none 0 0, .slice none 0 0], .int .i64 c]] [.tuple #[txE.val tx0, .int .i64 c]] S :=
  ⟨[], by simp, OwnL.tupL (l := [.agg #[.int .i64 0, .int .i64 0, .slice none 0 0, .slice none 0 0], .int .i64 c]) (l' := [txE.val tx0, .int .i64 c]) (OwnL.consL (OwnL.aggL (l := [.int .i64 0, .int .i64 0, .slice none 0 0, .slice none 0 0]) (l' := [.int .i64 0, .int .i64 0, islE refE [], islE outE []]) (.flat rfl (.flat rfl (.nils (.nils .nil))))) (.flat rfl .nil))⟩
theorem impl_txIn (l : TLedger) (id : Int) (h1 : l.texts.length ≤ 1048576) (hs : inB id 1 l.texts.length = true → (getS l.texts id).size ≤ 300) : NCalls Tryz.prog 35 [ledgerE.val l, .int .i64 id] (.tuple #[txE.val (txInP l id).1, .int .i64 (txInP l id).2]) := by
  have ht := impl_textOf l id h1
  unfold txInP
  cases hc : inB id 1 l.texts.length with
  | false =>
    simp only [hc, Bool.false_eq_true, if_false] at ht
    simp only [Bool.not_false, if_true]
    clear hs hc
    refine NCalls.of ?_; refine ACalls.enter (n := 29) (rs := [.cell 4 45, .tmp 5]) Tryz.func35 rfl rfl rfl (by kernel_rfl) (by kernel_rfl) (by kernel_rfl) (Nat.le_of_ble_eq_true rfl) ?_
    repeat' (first | (refine ACalls.start ?_; first | (refine ACalls.ofJi (ht) rfl ?_)) | (refine KV.run _ ?_) | (refine KT.run _ ?_) | (refine AWp.seqH fun KC => ?_) | (refine AWp.region ?_) | (refine AWp.ret ?_) | (refine aops_callH rfl fun kC => ?_) | (refine AWp.condB ?_) | (simp only [bse, wk, tys, storeH_ptr, Nat.reduceEqDiff, ↓reduceIte, reduceCtorEq, Nat.reduceAdd, Nat.reduceLeDiff, Int.reduceBEq, Int.reduceLT, Int.reduceLE, Int.reduceEq, ne_eq, not_false_eq_true, Nat.reduceMul, txE_val, txE_sz, txResultE_val, txResultE_sz, ledgerE_val, ledgerE_sz, *]))
    exact own_txt 3
  | true =>
    simp only [hc, if_true] at ht
    simp only [Bool.not_true, Bool.false_eq_true, if_false]
    have hs' := hs hc
    have hsz : (getS l.texts id).data.toList.length = (getS l.texts id).size := Array.length_toList
    have hrd := impl_readTx (getS l.texts id).data.toList (by omega)
    clear hsz
    rw [bs_of] at hrd
    generalize readT (getS l.texts id).data.toList = R at hrd ⊢
    obtain ⟨⟨x1, x2, ys, zs⟩, ok⟩ := R
    dsimp only at hrd ⊢
    simp only [txE_val] at hrd
    generalize getS l.texts id = T at ht hrd
    clear hs hs' hc
    cases ok with
    | false =>
      simp only [Bool.false_eq_true, if_false]
      refine NCalls.of ?_; refine ACalls.enter (n := 29) (rs := [.cell 4 45, .tmp 5]) Tryz.func35 rfl rfl rfl (by kernel_rfl) (by kernel_rfl) (by kernel_rfl) (Nat.le_of_ble_eq_true rfl) ?_
      repeat' (first | (refine ACalls.start ?_; first | (refine ACalls.ofJi (ht) rfl ?_)) | (refine KV.run _ ?_) | (refine KT.run _ ?_) | (refine AWp.seqH fun KC => ?_) | (refine AWp.region ?_) | (refine AWp.skip ?_) | (refine aops_callH rfl fun kC => ?_) | (refine AWp.condB ?_) | (simp only [bse, wk, tys, storeH_ptr, Nat.reduceEqDiff, ↓reduceIte, reduceCtorEq, Nat.reduceAdd, Nat.reduceLeDiff, Int.reduceBEq, Int.reduceLT, Int.reduceLE, Int.reduceEq, ne_eq, not_false_eq_true, Nat.reduceMul, txE_val, txE_sz, txResultE_val, txResultE_sz, ledgerE_val, ledgerE_sz, *]))
      refine ACalls.get (hrd.use (BorL.same (by repeat' (first | exact Im.nilL | refine Im.consL ?_ ?_ | refine Im.appL ?_ ?_ | exact Im.flat _ rfl | exact islE_im _ _ | exact Enc.val_im _ _ | assumption | refine Im.aggL ?_ | refine Im.funcL ?_ | refine Im.funcA ?_ | refine Im.isl ?_ | refine Im.ip ?_)))) (by first | exact Nat.le_refl _ | exact Nat.zero_le _ | (simp only [List.length_append, List.length_cons, List.length_nil]; omega) | (simp only [List.length_set]; omega) | omega) (by first | exact Nat.le_refl _ | exact Nat.zero_le _ | (simp only [List.length_append, List.length_cons, List.length_nil]; omega) | (simp only [List.length_set]; omega) | omega) ?_
      rintro d _ ⟨S, hN⟩
      obtain ⟨M, rfl⟩ := hN.more
      obtain ⟨a, ab, n, ver, nb, verb, S1, S2, rfl, rfl, p6, p7⟩ := own_txI hN.own rfl
      clear hN p6 p7
      repeat' (first | (refine KV.run _ ?_) | (refine KT.run _ ?_) | (refine AWp.seqH fun KC => ?_) | (refine AWp.region ?_) | (refine AWp.ret ?_) | (refine AWp.condB ?_) | (simp only [bse, wk, tys, storeH_ptr, Nat.reduceEqDiff, ↓reduceIte, reduceCtorEq, Nat.reduceAdd, Nat.reduceLeDiff, Int.reduceBEq, Int.reduceLT, Int.reduceLE, Int.reduceEq, ne_eq, not_false_eq_true, Nat.reduceMul, txE_val, txE_sz, txResultE_val, txResultE_sz, ledgerE_val, ledgerE_sz, *]))
      exact own_txt 5
    | true =>
      simp only [if_true]
      refine NCalls.of ?_; refine ACalls.enter (n := 29) (rs := [.cell 4 45, .tmp 5]) Tryz.func35 rfl rfl rfl (by kernel_rfl) (by kernel_rfl) (by kernel_rfl) (Nat.le_of_ble_eq_true rfl) ?_
      repeat' (first | (refine ACalls.start ?_; first | (refine ACalls.ofJi (ht) rfl ?_)) | (refine KV.run _ ?_) | (refine KT.run _ ?_) | (refine AWp.seqH fun KC => ?_) | (refine AWp.region ?_) | (refine AWp.skip ?_) | (refine aops_callH rfl fun kC => ?_) | (refine AWp.condB ?_) | (simp only [bse, wk, tys, storeH_ptr, Nat.reduceEqDiff, ↓reduceIte, reduceCtorEq, Nat.reduceAdd, Nat.reduceLeDiff, Int.reduceBEq, Int.reduceLT, Int.reduceLE, Int.reduceEq, ne_eq, not_false_eq_true, Nat.reduceMul, txE_val, txE_sz, txResultE_val, txResultE_sz, ledgerE_val, ledgerE_sz, *]))
      refine ACalls.get (hrd.use (BorL.same (by repeat' (first | exact Im.nilL | refine Im.consL ?_ ?_ | refine Im.appL ?_ ?_ | exact Im.flat _ rfl | exact islE_im _ _ | exact Enc.val_im _ _ | assumption | refine Im.aggL ?_ | refine Im.funcL ?_ | refine Im.funcA ?_ | refine Im.isl ?_ | refine Im.ip ?_)))) (by first | exact Nat.le_refl _ | exact Nat.zero_le _ | (simp only [List.length_append, List.length_cons, List.length_nil]; omega) | (simp only [List.length_set]; omega) | omega) (by first | exact Nat.le_refl _ | exact Nat.zero_le _ | (simp only [List.length_append, List.length_cons, List.length_nil]; omega) | (simp only [List.length_set]; omega) | omega) ?_
      rintro d _ ⟨S, hN⟩
      obtain ⟨M, rfl⟩ := hN.more
      obtain ⟨a, ab, n, ver, nb, verb, S1, S2, rfl, rfl, p6, p7⟩ := own_txI hN.own rfl
      have hnd := hN.nd
      have hlo := hN.lo
      have p8 := own_two p6 fun r hr => by have := hlo r (List.mem_append_left _ hr); simpa using this
      have p9 := own_two p7 fun r hr => by have := hlo r (List.mem_append_right _ hr); simpa using this
      clear hN hlo p6 p7
      repeat' (first | (refine KV.run _ ?_) | (refine KT.run _ ?_) | (refine AWp.seqH fun KC => ?_) | (refine AWp.region ?_) | (refine AWp.ret ?_) | (refine AWp.skip ?_) | (refine AWp.condB ?_) | (simp only [bse, wk, tys, storeH_ptr, Nat.reduceEqDiff, ↓reduceIte, reduceCtorEq, Nat.reduceAdd, Nat.reduceLeDiff, Int.reduceBEq, Int.reduceLT, Int.reduceLE, Int.reduceEq, ne_eq, not_false_eq_true, Nat.reduceMul, txE_val, txE_sz, txResultE_val, txResultE_sz, ledgerE_val, ledgerE_sz, *]))
      exact ⟨S1 ++ (S2 ++ []) ++ [], by simpa using hnd, OwnL.loose (OwnL.tupL (OwnL.consL (OwnL.aggL (.flat rfl (.flat rfl (OwnL.consL (p8 _ _ _) (OwnL.consL (p9 _ _ _) .nil))))) (.flat rfl .nil)))⟩
theorem impl_TxIn (l : TLedger) (id : Int) (h : nLedger l ≤ 1048576) : NCalls Tryz.prog 15 [ledgerE.val l, .int .i64 id] (txResultE.val (txInF l id)) := by
  have hn1 : l.texts.length ≤ 1048576 := by unfold nLedger at h; have := nStrS_len l.texts; omega
  have hn2 : l.signs.length ≤ 1048576 := by unfold nLedger at h; omega
  have hlf := impl_LedgerFault l hn1 hn2
  unfold txInF
  cases hf : (ledgerFault l == 0) with
  | false =>
    simp only [Bool.not_false, if_true]
    generalize ledgerFault l = F at hf hlf ⊢
    clear h hn1 hn2
    refine NCalls.of ?_; refine ACalls.enter (n := 23) (rs := [.cell 4 47]) Tryz.func15 rfl rfl rfl (by kernel_rfl) (by kernel_rfl) (by kernel_rfl) (Nat.le_of_ble_eq_true rfl) ?_
    repeat' (first | (refine ACalls.start ?_; first | (refine ACalls.ofJi (hlf) rfl ?_)) | (refine KV.run _ ?_) | (refine KT.run _ ?_) | (refine AWp.seqH fun KC => ?_) | (refine AWp.region ?_) | (refine AWp.ret ?_) | (refine aops_callH rfl fun kC => ?_) | (refine AWp.condB ?_) | (simp only [bse, wk, tys, storeH_ptr, Nat.reduceEqDiff, ↓reduceIte, reduceCtorEq, Nat.reduceAdd, Nat.reduceLeDiff, Int.reduceBEq, Int.reduceLT, Int.reduceLE, Int.reduceEq, ne_eq, not_false_eq_true, Nat.reduceMul, txE_val, txE_sz, txResultE_val, txResultE_sz, ledgerE_val, ledgerE_sz, *]))
    exact ⟨[], by simp, OwnL.aggL (l := [.int .i64 F, .int .i64 0, .int .i64 0, .slice none 0 0, .slice none 0 0]) (l' := [.int .i64 F, .int .i64 0, .int .i64 0, islE refE [], islE outE []]) (.flat rfl (.flat rfl (.flat rfl (.nils (.nils .nil)))))⟩
  | true =>
    have hf0 := eq_of_beq hf
    simp only [Bool.not_true, Bool.false_eq_true, if_false]
    have hbi := impl_txIn l id hn1 fun hc => getS_size hf0 hc
    rw [hf0] at hlf
    generalize txInP l id = R at hbi ⊢
    obtain ⟨⟨x1, x2, ys, zs⟩, code⟩ := R
    dsimp only at hbi ⊢
    simp only [txE_val] at hbi
    clear h hn1 hn2 hf hf0
    refine NCalls.of ?_; refine ACalls.enter (n := 23) (rs := [.cell 4 47]) Tryz.func15 rfl rfl rfl (by kernel_rfl) (by kernel_rfl) (by kernel_rfl) (Nat.le_of_ble_eq_true rfl) ?_
    repeat' (first | (refine ACalls.start ?_; first | (refine ACalls.ofJi (hlf) rfl ?_)) | (refine KV.run _ ?_) | (refine KT.run _ ?_) | (refine AWp.seqH fun KC => ?_) | (refine AWp.region ?_) | (refine AWp.skip ?_) | (refine aops_callH rfl fun kC => ?_) | (refine AWp.condB ?_) | (simp only [bse, wk, tys, storeH_ptr, Nat.reduceEqDiff, ↓reduceIte, reduceCtorEq, Nat.reduceAdd, Nat.reduceLeDiff, Int.reduceBEq, Int.reduceLT, Int.reduceLE, Int.reduceEq, ne_eq, not_false_eq_true, Nat.reduceMul, txE_val, txE_sz, txResultE_val, txResultE_sz, ledgerE_val, ledgerE_sz, *]))
    refine ACalls.get (hbi.use (BorL.same (by repeat' (first | exact Im.nilL | refine Im.consL ?_ ?_ | refine Im.appL ?_ ?_ | exact Im.flat _ rfl | exact islE_im _ _ | exact Enc.val_im _ _ | assumption | refine Im.aggL ?_ | refine Im.funcL ?_ | refine Im.funcA ?_ | refine Im.isl ?_ | refine Im.ip ?_)))) (by first | exact Nat.le_refl _ | exact Nat.zero_le _ | (simp only [List.length_append, List.length_cons, List.length_nil]; omega) | (simp only [List.length_set]; omega) | omega) (by first | exact Nat.le_refl _ | exact Nat.zero_le _ | (simp only [List.length_append, List.length_cons, List.length_nil]; omega) | (simp only [List.length_set]; omega) | omega) ?_
    rintro d _ ⟨S, hN⟩
    obtain ⟨M, rfl⟩ := hN.more
    obtain ⟨a, ab, n, ver, nb, verb, S1, S2, rfl, rfl, p6, p7⟩ := own_txI hN.own rfl
    have hnd := hN.nd
    have hlo := hN.lo
    have p8 := own_two p6 fun r hr => by have := hlo r (List.mem_append_left _ hr); simpa using this
    have p9 := own_two p7 fun r hr => by have := hlo r (List.mem_append_right _ hr); simpa using this
    clear hN hlo p6 p7
    repeat' (first | (refine KV.run _ ?_) | (refine KT.run _ ?_) | (refine AWp.seqH fun KC => ?_) | (refine AWp.region ?_) | (refine AWp.ret ?_) | (simp only [bse, wk, tys, storeH_ptr, Nat.reduceEqDiff, ↓reduceIte, reduceCtorEq, Nat.reduceAdd, Nat.reduceLeDiff, Int.reduceBEq, Int.reduceLT, Int.reduceLE, Int.reduceEq, ne_eq, not_false_eq_true, Nat.reduceMul, txE_val, txE_sz, txResultE_val, txResultE_sz, ledgerE_val, ledgerE_sz, *]))
    exact ⟨S1 ++ (S2 ++ []), by simpa using hnd, OwnL.loose (OwnL.aggL (.flat rfl (.flat rfl (.flat rfl (OwnL.consL (p8 _ _ _) (OwnL.consL (p9 _ _ _) .nil))))))⟩
end Go.BM
/- A block read out of a text: the reference. -/
set_option linter.unusedVariables false
set_option linter.unusedSimpArgs false
set_option maxRecDepth 100000
set_option maxHeartbeats 4000000
namespace Go.BM
open Go.Proofs Go.RowKit
attribute [local irreducible] ACalls AWp aops qops optK optP cK gateA condK mops qcallK PCalls loadV fldV idxV lenV slV storeH binS
theorem all_step {α : Type} (q : α → Bool) (xs : List α) (k : Nat) (hk : k < xs.length) : (xs.take (k + 1)).all q = ((xs.take k).all q && q xs[k]) := by
  rw [← take_next xs k hk, List.all_append]
  simp
end Go.BM
/- The text of a number and of a rule: the reference. -/
set_option linter.unusedVariables false
set_option linter.unusedSimpArgs false
set_option maxRecDepth 100000
set_option maxHeartbeats 4000000
namespace Go.BM
open Go.Proofs Go.RowKit
attribute [local irreducible] ACalls AWp aops qops optK optP cK gateA condK mops qcallK PCalls loadV fldV idxV lenV slV storeH binS
theorem spec_l2Digits : ∀ n : Nat, n ≤ 1000000000 → PCalls Tryz.prog 101 [.int .i64 (n : Int)] (.string (bs (Lib.decDigits n))) := by
  intro n
  induction n using Nat.strongRecOn with
  | _ n ih =>
    intro hn
    have hdg := digit_u8 n
    by_cases h : n < 10
    · have h' : (n : Int) < 10 := by omega
      have e1 : ((n : Int)).tmod 10 = n := Int.tmod_eq_of_lt (by omega) (by omega)
      have e2 : n % 10 = n := Nat.mod_eq_of_lt h
      rw [e1, e2] at hdg
      rw [Lib.decDigits, dif_pos h]
      have ht : ((48 + n : Nat) : Int).toNat = 48 + n := Int.toNat_natCast _
      clear ih e1 e2
      refine PCalls.flat rfl ?_; refine ACalls.enter (n := 20) (rs := [.tmp 2]) Tryz.func101 rfl rfl rfl (by kernel_rfl) (by kernel_rfl) (by kernel_rfl) (Nat.le_of_ble_eq_true rfl) ?_
      repeat' (first | (refine KT.run _ ?_) | (refine AWp.seqH fun KC => ?_) | (refine AWp.region ?_) | (refine AWp.ret ?_) | (refine AWp.condB ?_) | (simp only [bse, wk, tys, storeH_ptr, Nat.reduceEqDiff, ↓reduceIte, reduceCtorEq, Nat.reduceAdd, Nat.reduceLeDiff, Int.reduceBEq, Int.reduceLT, Int.reduceLE, Int.reduceEq, ne_eq, not_false_eq_true, Nat.reduceMul, ruleE_val, ruleE_sz, *]))
    · have h' : ¬ (n : Int) < 10 := by omega
      have h1 := ih (n / 10) (by omega) (by omega)
      have hq : IntKind.i64.wrap (((n : Int)).tdiv 10) = ((n / 10 : Nat) : Int) := by
        rw [show ((n : Int)).tdiv 10 = ((n / 10 : Nat) : Int) from rfl]
        exact wr (by omega) (by omega)
      have ht : ((48 + n % 10 : Nat) : Int).toNat = 48 + n % 10 := Int.toNat_natCast _
      have hl : ∀ (k m : Nat), m < 10 ^ k → 1 ≤ k → (Lib.decDigits m).length ≤ k := fun k => by
        induction k with
        | zero => intro m _ h0; omega
        | succ k ihk =>
          intro m hm _
          by_cases h1 : m < 10
          · rw [Lib.decDigits, dif_pos h1]; simp
          · rw [Lib.decDigits, dif_neg h1]
            by_cases hk : k = 0
            · subst hk; omega
            · have := ihk (m / 10) (by rw [Nat.pow_succ] at hm; omega) (by omega)
              simp
              omega
      have hl1 := hl 10 (n / 10) (by omega) (by omega)
      rw [Lib.decDigits, dif_neg h]
      have hadd : ∀ xo yo, binS Tryz.prog .add 9 xo yo (.string (bs (Lib.decDigits (n / 10)))) (.string ⟨#[UInt8.ofNat (48 + n % 10)]⟩) = some (.string (bs (Lib.decDigits (n / 10) ++ [UInt8.ofNat (48 + n % 10)]))) := fun xo yo => bin_sadd _ _ _ (Lib.decDigits (n / 10)) [UInt8.ofNat (48 + n % 10)] (by simp; omega)
      clear ih hl hl1
      refine PCalls.flat rfl ?_; refine ACalls.enter (n := 20) (rs := [.tmp 2]) Tryz.func101 rfl rfl rfl (by kernel_rfl) (by kernel_rfl) (by kernel_rfl) (Nat.le_of_ble_eq_true rfl) ?_
      repeat' (first | (refine KT.run _ ?_) | (refine AWp.seqH fun KC => ?_) | (refine AWp.region ?_) | (refine AWp.skip ?_) | (refine AWp.condB ?_) | (simp only [bse, wk, tys, storeH_ptr, Nat.reduceEqDiff, ↓reduceIte, reduceCtorEq, Nat.reduceAdd, Nat.reduceLeDiff, Int.reduceBEq, Int.reduceLT, Int.reduceLE, Int.reduceEq, ne_eq, not_false_eq_true, Nat.reduceMul, ruleE_val, ruleE_sz, *]))
      refine AWp.mixedT (id := 3) (.cons 0 0 (.cons 1 0 (.cons 3 0 (.cons 4 0 (.cons 5 0 (.cons 6 0 (.alt 2 1 (.cons 7 1 (.cons 8 0 (.cons 9 0 (.cons 10 0 .nil)))) (.cons 7 1 (.cons 8 0 (.cons 2 1 (.cons 9 0 (.cons 10 0 .nil)))))))))))) (by kernel_rfl) (by kernel_rfl) ?_
      refine mopsT_abs fun e0 he0 => ?_
      have r0 := congrFun he0 0
      try simp only [bse, wk, tys, storeH_ptr, Nat.reduceEqDiff, ↓reduceIte, reduceCtorEq, Nat.reduceAdd, Nat.reduceLeDiff, Int.reduceBEq, Int.reduceLT, Int.reduceLE, Int.reduceEq, ne_eq, not_false_eq_true, Nat.reduceMul, ruleE_val, ruleE_sz] at r0
      have he1 : Hid _ := he0
      clear he0
      refine mopsT_mono (K := fun e' H' => Agree [2, 10, 11, 12, 13, 14, 15, 16, 17, 18, 19] e0 e' ∧ (e' 2 = .string (bs (Lib.decDigits (n / 10) ++ [UInt8.ofNat (48 + n % 10)])))) ?cont _ _ _ ?leaf
      case leaf =>
        repeat' (first | (refine mopsT_step0 rfl rfl fun KC => ?_) | (refine mopsT_step1 rfl fun KC => ?_) | (refine mopsT_alt1 rfl (fun KC => ?_) ?_) | (refine ACalls.start ?_; first | (refine ACalls.ofJi (h1) rfl ?_)) | (refine KV.run _ ?_) | (refine KT.run _ ?_) | (refine aops_callH rfl fun kC => ?_) | (simp only [bse, wk, tys, storeH_ptr, Nat.reduceEqDiff, ↓reduceIte, reduceCtorEq, Nat.reduceAdd, Nat.reduceLeDiff, Int.reduceBEq, Int.reduceLT, Int.reduceLE, Int.reduceEq, ne_eq, not_false_eq_true, Nat.reduceMul, ruleE_val, ruleE_sz, *]))
        all_goals first | exact ⟨(by repeat (first | exact Agree.refl _ _ | assumption | refine Agree.put ?_ rfl _)), rfl⟩ | exact (by repeat (first | exact Agree.refl _ _ | assumption | refine Agree.put ?_ rfl _))
      rintro e' H' ⟨hA, e2⟩
      clear hA he1
      repeat' (first | (refine KT.run _ ?_) | (refine AWp.ret ?_) | (simp only [bse, wk, tys, storeH_ptr, Nat.reduceEqDiff, ↓reduceIte, reduceCtorEq, Nat.reduceAdd, Nat.reduceLeDiff, Int.reduceBEq, Int.reduceLT, Int.reduceLE, Int.reduceEq, ne_eq, not_false_eq_true, Nat.reduceMul, ruleE_val, ruleE_sz, *]))
end Go.BM
/- The text of a rule: the reference. -/
set_option linter.unusedVariables false
set_option linter.unusedSimpArgs false
set_option maxRecDepth 100000
set_option maxHeartbeats 4000000
namespace Go.BM
open Go.Proofs Go.RowKit
attribute [local irreducible] ACalls AWp aops qops optK optP cK gateA condK mops qcallK PCalls loadV fldV idxV lenV slV storeH binS
theorem spec_digits (x : Int) (h0 : 0 ≤ x) (h1 : x ≤ 1000000000) : PCalls Tryz.prog 101 [.int .i64 x] (.string (bs (Lib.itoa x))) := by
  have := spec_l2Digits x.toNat (by omega)
  rw [itoa_nat h0]
  rwa [show ((x.toNat : Nat) : Int) = x by omega] at this
theorem joinTail_snoc (c : List UInt8) (w : List UInt8) : ∀ ws : List (List UInt8), Lib.joinTail c (ws ++ [w]) = Lib.joinTail c ws ++ c ++ w := by
  intro ws
  induction ws with
  | nil => simp [Lib.joinTail]
  | cons a l ih => unfold Lib.joinTail at ih ⊢; simp at ih ⊢
theorem joinI_snoc (c : UInt8) (xs : List Int) (k : Nat) (h1 : 1 ≤ k) (hk : k < xs.length) : joinI c (xs.take (k + 1)) = joinI c (xs.take k) ++ [c] ++ Lib.itoa xs[k] := by
  obtain ⟨j, rfl⟩ : ∃ j, k = j + 1 := ⟨k - 1, by omega⟩
  cases xs with
  | nil => simp at hk
  | cons a l =>
    have hj : j < l.length := by simpa using hk
    unfold joinI
    simp only [List.take_succ_cons, List.map_cons, List.getElem_cons_succ]
    rw [Lib.join_cons, Lib.join_cons, List.take_succ_eq_append_getElem hj, List.map_append, List.map_cons, List.map_nil, joinTail_snoc]
    simp only [List.append_assoc]
theorem spec_l2Text (r : TRule) (hr : ruleFault r.keys r.need r.after = 0) : PCalls Tryz.prog 102 [ip [islE intE r.keys, .int .i64 r.need, .int .i64 r.after]] (.string (bs (ruleT 32 r))) := by
  obtain ⟨h1, h2, h3, h4⟩ := rf_bounds hr
  obtain ⟨keys, need, after⟩ := r
  dsimp only at *
  clear hr
  have hT : ruleT 32 ⟨keys, need, after⟩ = (Lib.itoa need ++ [32, 111, 102, 32] ++ joinI 44 keys) ++ (if after = 0 then [] else [32, 97, 102, 116, 101, 114, 32] ++ Lib.itoa after) := by
    unfold ruleT
    by_cases h0 : after = 0
    · simp [h0]
    · simp [h0]
  rw [hT]
  clear hT
  obtain ⟨P, hP⟩ : ∃ P, P = Lib.itoa need ++ [32, 111, 102, 32] := ⟨_, rfl⟩
  have hd1 := spec_digits need (by omega) (by omega)
  have hd3 := spec_digits after (by omega) (by omega)
  have l1 := itoa_len (x := need) (by omega) (by omega)
  have l3 := itoa_len (x := after) (by omega) (by omega)
  have hPl : P.length ≤ 7 := by rw [hP]; simp; omega
  have a1 : ∀ xo yo, binS Tryz.prog .add 9 xo yo (.string (bs (Lib.itoa need))) (.string ⟨#[32, 111, 102, 32]⟩) = some (.string (bs P)) := fun xo yo => by
    rw [hP]; exact bin_sadd _ _ _ (Lib.itoa need) [32, 111, 102, 32] (by simp; omega)
  rw [← hP]
  clear hP
  obtain ⟨k0, tl, hi0, hj1, hk0⟩ : ∃ k0 tl, (∀ H : AH, idxV Tryz.prog H 27 (islE intE keys) (.int .i64 0) = some (ip (.int .i64 k0 :: tl))) ∧ Lib.itoa k0 = joinI 44 (keys.take 1) ∧ k0 ∈ keys := by
    cases keys with
    | nil => simp at h1
    | cons a l =>
      refine ⟨a, intE.flat l, fun H => idxV_isl (P := Tryz.prog) (H := H) (n := (a :: l).length) (k := 0) (kd := .i64) (cs := intE.flat (a :: l)) elZ27 (by simp), ?_, by simp⟩
      unfold joinI
      simp [Lib.join_one]
  have hd2 := spec_digits k0 (by have := h4 k0 hk0; omega) (by have := h4 k0 hk0; omega)
  have l2 := itoa_len (x := k0) (by have := h4 k0 hk0; omega) (by have := h4 k0 hk0; omega)
  have a2 : ∀ xo yo, binS Tryz.prog .add 9 xo yo (.string (bs P)) (.string (bs (Lib.itoa k0))) = some (.string (bs (P ++ Lib.itoa k0))) := fun xo yo => bin_sadd _ _ _ P (Lib.itoa k0) (by omega)
  rw [hj1] at hd2 a2
  have hjl : ∀ k, (joinI 44 (keys.take k)).length ≤ 12 := fun k => by
    have := joinI_len 44 (keys.take k) (fun x hx => by have := h4 x (List.mem_of_mem_take hx); omega)
    have h5 : (keys.take k).length ≤ 3 := by rw [List.length_take]; omega
    omega
  clear hj1 hk0 l2 l1
  refine PCalls.flat rfl ?_; refine ACalls.enter (n := 53) (rs := [.tmp 2]) Tryz.func102 rfl rfl rfl (by kernel_rfl) (by kernel_rfl) (by kernel_rfl) (Nat.le_of_ble_eq_true rfl) ?_
  repeat' (first | (refine AWp.quiet (id := 1) (by kernel_rfl) (by kernel_rfl) ?_) | (refine qcall_start ?_; first | (refine qcallFi (hd1) rfl ?_ ?_; (focus ((first | exact rfl | (simp [pureV, flatV, ruleE_val, ruleE_sz]; done))))) | (refine qcallFi (hd2) rfl ?_ ?_; (focus ((first | exact rfl | (simp [pureV, flatV, ruleE_val, ruleE_sz]; done)))))) | (refine KQ.run _ ?_) | (refine KT.run _ ?_) | (refine AWp.seqH fun KC => ?_) | (refine AWp.block ?_) | (refine AWp.region ?_) | (refine qops_callH rfl fun kC => ?_) | (simp only [bse, wk, tys, storeH_ptr, Nat.reduceEqDiff, ↓reduceIte, reduceCtorEq, Nat.reduceAdd, Nat.reduceLeDiff, Int.reduceBEq, Int.reduceLT, Int.reduceLE, Int.reduceEq, ne_eq, not_false_eq_true, Nat.reduceMul, ruleE_val, ruleE_sz, *]))
  clear hd1 hd2 a1 a2 hi0
  refine AWp.loopH [19, 20, 21, 22, 23, 24, 25, 28, 29, 30, 31, 32, 33, 34, 35, 36, 37, 38, 3, 26, 27, 4] (fun m e' H' => ∃ k : Nat, 1 ≤ k ∧ k ≤ keys.length ∧ m = keys.length - k ∧ e' 4 = .int .i64 k ∧ e' 3 = .string (bs (P ++ joinI 44 (keys.take k))) ∧ H' = []) (keys.length - 1) ⟨1, by omega, by omega, by omega, rfl, rfl, rfl⟩ ?_
  rintro m e' H' hA ⟨k, hk1, hk, rfl, e4, e3, rfl⟩ hJ
  have a0 := hA 0 rfl; have a2 := hA 2 rfl; try simp only [bse, wk, tys, storeH_ptr, Nat.reduceEqDiff, ↓reduceIte, reduceCtorEq, Nat.reduceAdd, Nat.reduceLeDiff, Int.reduceBEq, Int.reduceLT, Int.reduceLE, Int.reduceEq, ne_eq, not_false_eq_true, Nat.reduceMul] at a0 a2; clear hA
  by_cases hlt : k < keys.length
  · have hlt' : (k : Int) < (keys.length : Int) := by omega
    have hw := wr_succ (k := k) (by omega)
    have hd := spec_digits keys[k] (by have := h4 _ (List.getElem_mem hlt); omega) (by have := h4 _ (List.getElem_mem hlt); omega)
    have lk := itoa_len (x := keys[k]) (by have := h4 _ (List.getElem_mem hlt); omega) (by have := h4 _ (List.getElem_mem hlt); omega)
    have lj := hjl k
    obtain ⟨X, hX⟩ : ∃ X, X = P ++ joinI 44 (keys.take k) := ⟨_, rfl⟩
    obtain ⟨Y, hY⟩ : ∃ Y, Y = X ++ [44] := ⟨_, rfl⟩
    have hXl : X.length ≤ 19 := by rw [hX]; simp; omega
    have hYl : Y.length ≤ 20 := by rw [hY]; simp; omega
    have b1 : ∀ xo yo, binS Tryz.prog .add 9 xo yo (.string (bs X)) (.string ⟨#[44]⟩) = some (.string (bs Y)) := fun xo yo => by
      rw [hY]; exact bin_sadd _ _ _ X [44] (by simp; omega)
    have b2 : ∀ xo yo, binS Tryz.prog .add 9 xo yo (.string (bs Y)) (.string (bs (Lib.itoa keys[k]))) = some (.string (bs (P ++ joinI 44 (keys.take (k + 1))))) := fun xo yo => by
      rw [joinI_snoc 44 keys k hk1 hlt, ← List.append_assoc, ← List.append_assoc, ← hX, ← hY]
      exact bin_sadd _ _ _ Y (Lib.itoa keys[k]) (by omega)
    rw [← hX] at e3
    clear hX hY hXl hYl
    clear lk lj hjl h4
    repeat' (first | (refine ACalls.start ?_; first | (refine ACalls.ofJi (hd) rfl ?_)) | (refine KV.run _ ?_) | (refine KT.run _ ?_) | (refine AWp.seqH fun KC => ?_) | (refine AWp.block ?_) | (refine AWp.region ?_) | (refine AWp.skip ?_) | (refine aops_callH rfl fun kC => ?_) | (refine AWp.condB ?_) | (simp only [bse, wk, tys, storeH_ptr, Nat.reduceEqDiff, ↓reduceIte, reduceCtorEq, Nat.reduceAdd, Nat.reduceLeDiff, Int.reduceBEq, Int.reduceLT, Int.reduceLE, Int.reduceEq, ne_eq, not_false_eq_true, Nat.reduceMul, ruleE_val, ruleE_sz, *]))
    exact hJ.out _ _ ⟨keys.length - (k + 1), by omega, k + 1, by omega, by omega, rfl, rfl, by simp [put], rfl⟩ (by repeat (first | exact Agree.refl _ _ | assumption | refine Agree.put ?_ rfl _))
  · have hlt' : ¬ (k : Int) < (keys.length : Int) := by omega
    have hke : k = keys.length := by omega
    have lj := hjl k
    subst hke
    rw [List.take_length] at e3 lj
    clear hjl
    obtain ⟨X, hX⟩ : ∃ X, X = P ++ joinI 44 keys := ⟨_, rfl⟩
    have hXl : X.length ≤ 19 := by rw [hX]; simp; omega
    rw [← hX] at e3
    have hXH : Hid (X = P ++ joinI 44 keys) := hX
    clear hX lj
    by_cases h0 : after = 0
    · have h0' : (after == 0) = true := by simpa using h0
      have hH : Hid (after = 0) := h0
      clear h0
      repeat' (first | (refine KT.run _ ?_) | (refine AWp.seqH fun KC => ?_) | (refine AWp.region ?_) | (refine AWp.ret ?_) | (refine AWp.skip ?_) | (refine AWp.exit ?_) | (refine AWp.condB ?_) | (simp only [bse, wk, tys, storeH_ptr, Nat.reduceEqDiff, ↓reduceIte, reduceCtorEq, Nat.reduceAdd, Nat.reduceLeDiff, Int.reduceBEq, Int.reduceLT, Int.reduceLE, Int.reduceEq, ne_eq, not_false_eq_true, Nat.reduceMul, ruleE_val, ruleE_sz, *]))
      all_goals (rw [if_pos hH.out, List.append_nil, hXH.out])
    · have h0' : (after == 0) = false := by simpa using h0
      have hH : Hid (¬ after = 0) := h0
      clear h0
      obtain ⟨Y, hY⟩ : ∃ Y, Y = X ++ [32, 97, 102, 116, 101, 114, 32] := ⟨_, rfl⟩
      obtain ⟨Z, hZ⟩ : ∃ Z, Z = Y ++ Lib.itoa after := ⟨_, rfl⟩
      have hYl : Y.length ≤ 26 := by rw [hY]; simp; omega
      have c1 : ∀ xo yo, binS Tryz.prog .add 9 xo yo (.string (bs X)) (.string ⟨#[32, 97, 102, 116, 101, 114, 32]⟩) = some (.string (bs Y)) := fun xo yo => by
        rw [hY]; exact bin_sadd _ _ _ X [32, 97, 102, 116, 101, 114, 32] (by simp; omega)
      have c2 : ∀ xo yo, binS Tryz.prog .add 9 xo yo (.string (bs Y)) (.string (bs (Lib.itoa after))) = some (.string (bs Z)) := fun xo yo => by
        rw [hZ]; exact bin_sadd _ _ _ Y (Lib.itoa after) (by omega)
      have hYH : Hid (Z = X ++ ([32, 97, 102, 116, 101, 114, 32] ++ Lib.itoa after)) := by unfold Hid; rw [hZ, hY]; simp
      clear hY hZ hYl hXl
      repeat' (first | (refine ACalls.start ?_; first | (refine ACalls.ofJi (hd3) rfl ?_)) | (refine KV.run _ ?_) | (refine KT.run _ ?_) | (refine AWp.seqH fun KC => ?_) | (refine AWp.region ?_) | (refine AWp.ret ?_) | (refine AWp.exit ?_) | (refine aops_callH rfl fun kC => ?_) | (refine AWp.condB ?_) | (simp only [bse, wk, tys, storeH_ptr, Nat.reduceEqDiff, ↓reduceIte, reduceCtorEq, Nat.reduceAdd, Nat.reduceLeDiff, Int.reduceBEq, Int.reduceLT, Int.reduceLE, Int.reduceEq, ne_eq, not_false_eq_true, Nat.reduceMul, ruleE_val, ruleE_sz, *]))
      all_goals (rw [if_neg hH.out, hYH.out, hXH.out]; simp)
end Go.BM
