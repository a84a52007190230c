/- Packed: K36, K37, K38, K39, K9, K40. -/
import Derived.Test.YtboephigjgncaaaGreatDoorZ5
import Derived.Test.YtboephigjgncaaaGreatDoorZ8
import Derived.Test.YtboephigjgncaaaGreatDoorZ9
/- A transaction read out of a text: the reference, kind 0. -/
set_option linter.unusedVariables false
set_option linter.unusedSimpArgs false
set_option maxRecDepth 100000
set_option maxHeartbeats 4000000
namespace Go.BM
open Go.Proofs Go.RowKit
attribute [local irreducible] ACalls AWp aops qops optK optP cK gateA condK mops qcallK PCalls loadV fldV idxV lenV slV storeH binS
theorem l3Parse0 (t w0 wi : List UInt8) (wo : List (List UInt8)) (hw : cutL 32 t = w0 :: wi :: wo) (h0 : w0 = [112, 97, 121]) (hne : wo.length ≠ 0) (ht : t.length ≤ 300) (R : Option TTx) (hR : R = (insF (cutL 43 wi)).bind fun ins => (parOuts wo).bind fun outs => parEnd t 0 0 ins outs) : ECalls Tryz.prog 55 [.string (bs t)] (RT R) := by
  have hsp := spec_l2Cut t 32 32 rfl (by omega)
  have hlt := cutL_mem 32 t
  have hnl := cutL_len 32 t
  rw [hw] at hlt hnl
  have hlo : ∀ w ∈ wo, w.length ≤ 300 := fun w hw => by have := hlt w (by simp [hw]); omega
  have hwl : wo.length ≤ 301 := by simp only [List.length_cons] at hnl; omega
  have hil := insF_len (cutL 43 wi)
  have hcl43 := cutL_len 43 wi
  have hwil : wi.length ≤ 300 := by have := hlt wi (by simp); omega
  have hli := spec_l3Ins wi (by have := hlt wi (by simp); omega)
  have hrsl : ∀ rs, insF (cutL 43 wi) = some rs → rs.length ≤ 1048576 := fun rs h => by have := hil rs h; omega
  clear hil hcl43 hwil
  generalize insF (cutL 43 wi) = I at hli hR hrsl
  obtain ⟨W, hW⟩ : ∃ W, W = cutW 32 t := ⟨_, rfl⟩
  have hWe : W = bs w0 :: bs wi :: wo.map bs := by rw [hW]; unfold cutW; rw [hw]; rfl
  rw [← hW] at hsp
  have hWl : W.length = wo.length + 2 := by rw [hWe]; simp
  have hWk : ∀ (j : Nat) (h : j < wo.length), W[2 + j]? = some (bs wo[j]) := fun j h => by rw [hWe, show 2 + j = j + 2 by omega]; simp [h]
  have ix0 : ∀ H : AH, idxV Tryz.prog H 22 (islE strE W) (.int .i64 0) = some (ip (.string (bs w0) :: strE.flat (W.drop 1))) := fun H => by
    have h := ix_at W 0 (by omega) H
    rw [show W[0]'(by omega) = bs w0 by simp [hWe]] at h
    exact h
  have ix1 : ∀ H : AH, idxV Tryz.prog H 22 (islE strE W) (.int .i64 1) = some (ip (.string (bs wi) :: strE.flat (W.drop 2))) := fun H => by
    have h := ix_at W 1 (by omega) H
    rw [show W[1]'(by omega) = bs wi by simp [hWe]] at h
    exact h
  have ld := ld_str
  have g0 : (bs w0 == ⟨#[112, 97, 121]⟩) = true := by rw [show (bs w0 == ⟨#[112, 97, 121]⟩) = (w0 == [112, 97, 121]) from bs_beq _ _, h0]; rfl
  have g1 : (bs w0 == ⟨#[106, 111, 105, 110]⟩) = false := by rw [show (bs w0 == ⟨#[106, 111, 105, 110]⟩) = (w0 == [106, 111, 105, 110]) from bs_beq _ _, h0]; rfl
  have g2 : (bs w0 == ⟨#[108, 101, 97, 118, 101]⟩) = false := by rw [show (bs w0 == ⟨#[108, 101, 97, 118, 101]⟩) = (w0 == [108, 101, 97, 118, 101]) from bs_beq _ _, h0]; rfl
  have hlen1 : ¬ (W.length : Int) < 3 := by omega
  have hwa : IntKind.i64.wrap (1 + 2) = 3 := by decide
  have hwb : IntKind.i64.wrap (1 + 1) = ((2 : Nat) : Int) := by decide
  have h300 : (t.length : Int) ≤ 300 := by omega
  have hWlH : Hid _ := hWl
  clear hlt hnl hw hW hWe h0 hWl
  have hIn : Hid (I = none → R = none) := fun h => by rw [hR, h]; rfl
  have hIs : Hid (∀ rs, I = some rs → R = ((parOuts (wo.drop 0)).map (([] : List TOut) ++ ·)).bind fun outs => parEnd t 0 0 rs outs) := fun rs h => by
    rw [hR, h]
    simp
  clear hR
  unfold ECalls
  refine ACalls.enter (n := 136) (rs := [.cell 2 45, .tmp 3]) Tryz.func55 rfl rfl rfl (by kernel_rfl) (by kernel_rfl) (by kernel_rfl) (Nat.le_of_ble_eq_true rfl) ?_
  repeat' (first | (refine ACalls.start ?_; first | (refine ACalls.ofJi (hsp) rfl ?_)) | (refine KV.run _ ?_) | (refine KT.run _ ?_) | (refine AWp.seqH fun KC => ?_) | (refine AWp.region ?_) | (refine AWp.skip ?_) | (refine aops_callH rfl fun kC => ?_) | (refine AWp.condB ?_) | (simp only [bse, wk, tys, storeH_ptr, Nat.reduceEqDiff, ↓reduceIte, reduceCtorEq, Nat.reduceAdd, Nat.reduceLeDiff, Int.reduceBEq, Int.reduceLT, Int.reduceLE, Int.reduceEq, ne_eq, not_false_eq_true, Nat.reduceMul, refE_val, refE_sz, outE_val, outE_sz, txE_val, txE_sz, ruleE_val, ruleE_sz, Int.cast_ofNat_Int, *]))
  refine ACalls.get (hli.use dIns_sh (.cons (.same _ (.flat _ rfl)) .nil)) (by first | exact Nat.le_refl _ | exact Nat.zero_le _ | (simp only [List.length_append, List.length_cons, List.length_nil]; omega) | (simp only [List.length_set]; omega) | omega) (by first | exact Nat.le_refl _ | exact Nat.zero_le _ | (simp only [List.length_append, List.length_cons, List.length_nil]; omega) | (simp only [List.length_set]; omega) | omega) ?_
  rintro _ _ ⟨_, _, hd, rfl, rfl⟩
  rcases hd with ⟨rfl, rfl, rfl⟩ | ⟨rs, v1, rfl, rfl, rfl⟩
  · have hRn : Hid (R = none) := hIn.out rfl
    clear hIn hIs hli
    repeat' (first | (refine KV.run _ ?_) | (refine KT.run _ ?_) | (refine AWp.seqH fun KC => ?_) | (refine AWp.block ?_) | (refine AWp.region ?_) | (simp only [bse, wk, tys, storeH_ptr, Nat.reduceEqDiff, ↓reduceIte, reduceCtorEq, Nat.reduceAdd, Nat.reduceLeDiff, Int.reduceBEq, Int.reduceLT, Int.reduceLE, Int.reduceEq, ne_eq, not_false_eq_true, Nat.reduceMul, refE_val, refE_sz, outE_val, outE_sz, txE_val, txE_sz, ruleE_val, ruleE_sz, Int.cast_ofNat_Int, *]))
    refine AWp.loopH [75, 76, 77, 78, 79, 80, 81, 84, 85, 86, 87, 88, 12, 89, 90, 91, 92, 3, 94, 95, 96, 97, 93, 98, 99, 13, 14, 101, 102, 103, 104, 105, 100, 106, 107, 15, 16, 108, 109, 110, 111, 10, 112, 113, 114, 115, 116, 117, 118, 119, 82, 83, 11] (fun m' e' H' => e' 11 = .int .i64 ((2 : Nat) : Int) ∧ e' 10 = .bool false ∧ H' = _) 0 ⟨rfl, rfl, rfl⟩ ?_
    rintro m' e' H' hA ⟨e11, e10, rfl⟩ hJ
    have a0 := hA 0 rfl; have a2 := hA 2 rfl; have a4 := hA 4 rfl; have a5 := hA 5 rfl; try simp only [bse, wk, tys, storeH_ptr, Nat.reduceEqDiff, ↓reduceIte, reduceCtorEq, Nat.reduceAdd, Nat.reduceLeDiff, Int.reduceBEq, Int.reduceLT, Int.reduceLE, Int.reduceEq, ne_eq, not_false_eq_true, Nat.reduceMul] at a0 a2 a4 a5; clear hA
    repeat' (first | (refine AWp.mixedT (id := 31) (.cons 0 0 (.cons 1 0 (.cons 2 0 (.cons 3 1 (.cons 4 0 (.cons 5 0 (.cons 6 0 (.cons 8 0 (.cons 7 1 (.cons 9 0 (.cons 10 0 (.cons 11 0 (.cons 12 0 (.alt 13 1 (.alt 14 1 (.alt 15 1 (.cons 16 2 (.cons 17 0 .nil)) (.cons 16 2 (.cons 15 0 (.cons 17 0 .nil)))) (.cons 16 2 (.cons 14 0 (.cons 15 0 (.cons 17 0 .nil))))) (.cons 16 2 (.cons 13 0 (.cons 14 0 (.cons 15 0 (.cons 17 0 .nil))))))))))))))))))) (by kernel_rfl) (by kernel_rfl) ?_) | (refine mopsT_step0 rfl rfl fun KC => ?_) | (refine mopsT_step1 rfl fun KC => ?_) | (refine mopsT_step2 rfl fun KC => ?_) | (refine mopsT_alt1 rfl (fun KC => ?_) ?_) | (refine KT.run _ ?_) | (refine AWp.seqH fun KC => ?_) | (refine AWp.region ?_) | (refine AWp.ret ?_) | (refine AWp.exit ?_) | (refine AWp.condB ?_) | (simp only [bse, wk, tys, storeH_ptr, Nat.reduceEqDiff, ↓reduceIte, reduceCtorEq, Nat.reduceAdd, Nat.reduceLeDiff, Int.reduceBEq, Int.reduceLT, Int.reduceLE, Int.reduceEq, ne_eq, not_false_eq_true, Nat.reduceMul, refE_val, refE_sz, outE_val, outE_sz, txE_val, txE_sz, ruleE_val, ruleE_sz, Int.cast_ofNat_Int, *]) | (refine condK_bool (fun hb => ?_) (fun hb => ?_) <;> ((try simp only [Bool.not_eq_true', Bool.not_eq_false'] at hb) <;> (try (have hbe := of_decide_eq_true hb)) <;> (try (have hbe := eq_of_beq hb)))) | (refine aops_partB ?_))
    all_goals exact eout_T (ok := false) (ins := []) (outs := []) hRn.out Bor.nil Bor.nil
  · have hRs : Hid (R = ((parOuts (wo.drop 0)).map (([] : List TOut) ++ ·)).bind fun outs => parEnd t 0 0 rs outs) := hIs.out rs rfl
    clear hIn hIs hli
    repeat' (first | (refine KV.run _ ?_) | (refine KT.run _ ?_) | (refine AWp.seqH fun KC => ?_) | (refine AWp.block ?_) | (refine AWp.region ?_) | (simp only [bse, wk, tys, storeH_ptr, Nat.reduceEqDiff, ↓reduceIte, reduceCtorEq, Nat.reduceAdd, Nat.reduceLeDiff, Int.reduceBEq, Int.reduceLT, Int.reduceLE, Int.reduceEq, ne_eq, not_false_eq_true, Nat.reduceMul, refE_val, refE_sz, outE_val, outE_sz, txE_val, txE_sz, ruleE_val, ruleE_sz, Int.cast_ofNat_Int, *]))
    refine AWp.loopH [75, 76, 77, 78, 79, 80, 81, 84, 85, 86, 87, 88, 12, 89, 90, 91, 92, 3, 94, 95, 96, 97, 93, 98, 99, 13, 14, 101, 102, 103, 104, 105, 100, 106, 107, 15, 16, 108, 109, 110, 111, 10, 112, 113, 114, 115, 116, 117, 118, 119, 82, 83, 11] (fun m' e' H' => ∃ (j : Nat) (ok : Bool) (ad2 : Option Addr) (n2 v2 : Nat) (M2 : AH) (pre : List TOut), j ≤ wo.length ∧ m' = wo.length - j ∧ e' 11 = .int .i64 ((2 + j : Nat) : Int) ∧ e' 10 = .bool ok ∧ H' = ⟨45, 0, [.int .i64 0, .int .i64 0, .slice none 0 0, .slice none 0 0], 0, true⟩ :: ⟨45, 0, [.int .i64 0, .int .i64 0, .slice (some ⟨2, 0, none⟩) rs.length v1, .slice ad2 n2 v2], 0, true⟩ :: M2 ∧ pre.length = j ∧ Hid (SlM 2 128 refE M2 (some ⟨2, 0, none⟩) rs.length v1 rs) ∧ Hid (SlM 2 120 outE M2 ad2 n2 v2 pre) ∧ Hid (ok = false → R = none) ∧ Hid (ok = true → (∀ x ∈ pre, x.rule.keys.length ≤ 1000000) ∧ R = ((parOuts (wo.drop j)).map (pre ++ ·)).bind fun outs => parEnd t 0 0 rs outs)) wo.length ⟨0, true, none, 0, 0, _, [], by omega, by omega, rfl, rfl, rfl, rfl, SlM.blk (r := 0) rfl rfl rfl, SlM.nil _ _ _ _, (fun h => by cases h), fun _ => ⟨(fun _ h => by simp at h), hRs.out⟩⟩ ?_
    clear hRs
    rintro m' e' H' hA ⟨j, ok, ad2, n2, v2, M2, pre, hj, rfl, e11, e10, rfl, hpl, hI, hO, hF, hT⟩ hJ
    have a0 := hA 0 rfl; have a2 := hA 2 rfl; have a4 := hA 4 rfl; have a5 := hA 5 rfl; try simp only [bse, wk, tys, storeH_ptr, Nat.reduceEqDiff, ↓reduceIte, reduceCtorEq, Nat.reduceAdd, Nat.reduceLeDiff, Int.reduceBEq, Int.reduceLT, Int.reduceLE, Int.reduceEq, ne_eq, not_false_eq_true, Nat.reduceMul] at a0 a2 a4 a5; clear hA
    have hbi := hI.out.bor
    have hbo := hO.out.bor
    have hfail : ∀ (b0 b1 : Blk) (L : AH) (b : Bool), Hid (R = if b then some ⟨0, 0, rs, pre⟩ else none) → EOut (RT R) (.tuple #[.agg #[.int .i64 0, .int .i64 0, .slice (some ⟨2, 0, none⟩) rs.length v1, .slice ad2 n2 v2], .bool b]) (b0 :: b1 :: (M2 ++ L)) := fun b0 b1 L b h =>
      eout_T (ok := b) h.out ((hI.out.grow L).bor [b0, b1] rfl) ((hO.out.grow L).bor [b0, b1] rfl)
    by_cases hlt : j < wo.length
    · have hlt' : ((2 + j : Nat) : Int) < (W.length : Int) := by have := hWlH.out; omega
      have hltn : 2 + j < W.length := by have := hWlH.out; omega
      cases ok with
      | false =>
        have hN := fun b0 b1 => hfail b0 b1 [] false (by unfold Hid; rw [hF.out rfl]; rfl)
        simp only [List.append_nil] at hN
        clear hfail hbi hbo hI hO hF hT hWk hlo
        repeat' (first | (refine AWp.mixedT (id := 31) (.cons 0 0 (.cons 1 0 (.cons 2 0 (.cons 3 1 (.cons 4 0 (.cons 5 0 (.cons 6 0 (.cons 8 0 (.cons 7 1 (.cons 9 0 (.cons 10 0 (.cons 11 0 (.cons 12 0 (.alt 13 1 (.alt 14 1 (.alt 15 1 (.cons 16 2 (.cons 17 0 .nil)) (.cons 16 2 (.cons 15 0 (.cons 17 0 .nil)))) (.cons 16 2 (.cons 14 0 (.cons 15 0 (.cons 17 0 .nil))))) (.cons 16 2 (.cons 13 0 (.cons 14 0 (.cons 15 0 (.cons 17 0 .nil))))))))))))))))))) (by kernel_rfl) (by kernel_rfl) ?_) | (refine mopsT_step0 rfl rfl fun KC => ?_) | (refine mopsT_step1 rfl fun KC => ?_) | (refine mopsT_step2 rfl fun KC => ?_) | (refine mopsT_alt1 rfl (fun KC => ?_) ?_) | (refine KT.run _ ?_) | (refine AWp.seqH fun KC => ?_) | (refine AWp.region ?_) | (refine AWp.ret ?_) | (refine AWp.exit ?_) | (refine AWp.condB ?_) | (simp only [bse, wk, tys, storeH_ptr, Nat.reduceEqDiff, ↓reduceIte, reduceCtorEq, Nat.reduceAdd, Nat.reduceLeDiff, Int.reduceBEq, Int.reduceLT, Int.reduceLE, Int.reduceEq, ne_eq, not_false_eq_true, Nat.reduceMul, refE_val, refE_sz, outE_val, outE_sz, txE_val, txE_sz, ruleE_val, ruleE_sz, Int.cast_ofNat_Int, *]))
        all_goals exact hN _ _
      | true =>
        obtain ⟨hK, hS⟩ := hT.out rfl
        have hKH : Hid _ := hK
        clear hF hT hK
        have hw := wr_succ (k := 2 + j) (by omega)
        have hkb : W[2 + j] = bs wo[j] := by have := hWk j hlt; rw [List.getElem?_eq_getElem hltn] at this; injection this
        have hixj := ix_at W (2 + j) hltn
        rw [hkb] at hixj
        have hwj := hlo wo[j] (List.getElem_mem hlt)
        have hc := spec_l2Cut wo[j] 61 61 rfl (by omega)
        have hcl : (cutW 61 wo[j]).length = (cutL 61 wo[j]).length := List.length_map ..
        have hps := parOuts_step wo j hlt
        by_cases h2 : (cutL 61 wo[j]).length = 2
        · obtain ⟨wa, wb, hab⟩ : ∃ wa wb, cutL 61 wo[j] = [wa, wb] := by
            match hq : cutL 61 wo[j], h2 with
            | [wa, wb], _ => exact ⟨wa, wb, rfl⟩
          have hla := cutL_mem 61 wo[j] wa (by rw [hab]; simp)
          have hlb := cutL_mem 61 wo[j] wb (by rw [hab]; simp)
          have hCW : cutW 61 wo[j] = [bs wa, bs wb] := by unfold cutW; rw [hab]; rfl
          rw [hCW] at hc
          rw [hab] at hps
          dsimp only at hps
          have n1 : PCalls Tryz.prog 68 [.string (bs wa), .int .i64 7] (.tuple #[.int .i64 (numD 7 wa).1, .bool (numD 7 wa).2]) := spec_l2Number wa 7 (by omega) (by omega)
          have sw : PCalls Tryz.prog 80 [.string (bs wb), .int .u8 95, .int .u8 32] (.string (bs (swapL 95 32 wb))) := spec_l3Swap wb (by omega) 95 32
          have pr := spec_l2Parse (swapL 95 32 wb) (by unfold swapL; rw [List.length_map]; omega)
          have prk := parR_ok (t := swapL 95 32 wb)
          generalize parR (swapL 95 32 wb) = Q at pr hps prk
          generalize swapL 95 32 wb = ub at sw pr
          generalize numD 7 wa = A at n1 hps
          obtain ⟨x, g1⟩ := A
          obtain ⟨⟨ks, nd, af⟩, g2⟩ := Q
          simp only [ruleE_val] at pr
          dsimp only at n1 hps prk pr
          have q2 : (((2 : Nat) : Int) == 2) = true := rfl
          have iy0 : ∀ H : AH, idxV Tryz.prog H 22 (islE strE [bs wa, bs wb]) (.int .i64 0) = some (ip [.string (bs wa), .string (bs wb)]) := fun H => idxV_isl (P := Tryz.prog) (H := H) (n := 2) (k := 0) (kd := .i64) (cs := strE.flat [bs wa, bs wb]) elZ22 (by omega)
          have iy1 : ∀ H : AH, idxV Tryz.prog H 22 (islE strE [bs wa, bs wb]) (.int .i64 1) = some (ip [.string (bs wb)]) := fun H => idxV_isl (P := Tryz.prog) (H := H) (n := 2) (k := 1) (kd := .i64) (cs := strE.flat [bs wa, bs wb]) elZ22 (by omega)
          obtain ⟨ad3, n3, v3, M3, hap, hO3, hml, hfr⟩ := (hO.out.grow [⟨115, 0, [islE intE ks, .int .i64 nd, .int .i64 af], 0, true⟩]).app (P := Tryz.prog) (B := 0) [⟨45, 0, [.int .i64 0, .int .i64 0, .slice none 0 0, .slice none 0 0], 0, true⟩, ⟨45, 0, [.int .i64 0, .int .i64 0, .slice (some ⟨2, 0, none⟩) rs.length v1, .slice ad2 n2 v2], 0, true⟩] rfl (M2.length + 1 + 1 + 1) (by simp; omega) elZ43 elZ43 zOk43 (Nat.zero_le _) (⟨x, ⟨ks, nd, af⟩⟩ : TOut) (by omega) (by omega)
          have hap2 : appendH Tryz.prog 0 (⟨45, 0, [.int .i64 0, .int .i64 0, .slice none 0 0, .slice none 0 0], 0, true⟩ :: ⟨45, 0, [.int .i64 0, .int .i64 0, .slice (some ⟨2, 0, none⟩) rs.length v1, .slice ad2 n2 v2], 0, true⟩ :: (M2 ++ [⟨115, 0, [islE intE ks, .int .i64 nd, .int .i64 af], 0, true⟩, ⟨120, 4, [.int .i64 x, islE intE ks, .int .i64 nd, .int .i64 af], 0, true⟩])) 43 43 (.slice ad2 n2 v2) (.slice (some ⟨M2.length + 1 + 1 + 1, 0, none⟩) 1 0) = some (.slice ad3 n3 v3, ⟨45, 0, [.int .i64 0, .int .i64 0, .slice none 0 0, .slice none 0 0], 0, true⟩ :: ⟨45, 0, [.int .i64 0, .int .i64 0, .slice (some ⟨2, 0, none⟩) rs.length v1, .slice ad2 n2 v2], 0, true⟩ :: M3) := by
            simp only [List.append_assoc, List.cons_append, List.nil_append] at hap
            exact hap
          have hI3 : Hid (SlM 2 128 refE M3 (some ⟨2, 0, none⟩) rs.length v1 rs) := (hI.out.grow _).two (hO.out.grow _) (by decide) hfr
          have hO4 : Hid (SlM 2 120 outE M3 ad3 n3 v3 (pre ++ [(⟨x, ⟨ks, nd, af⟩⟩ : TOut)])) := hO3
          have hSF : Hid ((g1 && g2) = false → R = none) := fun h => by rw [hS, hps, h]; rfl
          have hST : Hid ((g1 && g2) = true → (∀ z ∈ pre ++ [(⟨x, ⟨ks, nd, af⟩⟩ : TOut)], z.rule.keys.length ≤ 1000000) ∧ R = ((parOuts (wo.drop (j + 1))).map ((pre ++ [(⟨x, ⟨ks, nd, af⟩⟩ : TOut)]) ++ ·)).bind fun outs => parEnd t 0 0 rs outs) := fun h => by
            refine ⟨fun z hz => ?_, ?_⟩
            · rcases List.mem_append.1 hz with hz | hz
              · exact hKH.out z hz
              · rw [List.mem_singleton] at hz
                subst hz
                simp only [Bool.and_eq_true] at h
                have := (rf_bounds (prk h.2)).1.2
                dsimp only
                omega
            · rw [hS, hps, h, if_pos rfl, Option.map_map]
              congr 2
              funext l
              simp
          clear hap hO3 hfr hI hO hbi hbo hfail hKH hS hps prk h2 hab hcl hla hlb hCW hwj hWk hlo hml
          have h3 : g1 = false ∨ (g1 = true ∧ g2 = false) ∨ (g1 = true ∧ g2 = true) := by cases g1 <;> cases g2 <;> simp
          rcases h3 with rfl | ⟨rfl, rfl⟩ | ⟨rfl, rfl⟩
          all_goals
            repeat' (first | (refine ACalls.start ?_; first | (refine ACalls.ofJi (hc) rfl ?_) | (refine ACalls.ofJi (n1) rfl ?_) | (refine ACalls.ofJi (sw) rfl ?_) | (refine ACalls.ofJi (pr) rfl ?_)) | (refine KV.run _ ?_) | (refine KT.run _ ?_) | (refine AWp.seqH fun KC => ?_) | (refine AWp.block ?_) | (refine AWp.region ?_) | (refine AWp.skip ?_) | (refine aops_callH rfl fun kC => ?_) | (refine AWp.condB ?_) | (simp only [bse, wk, tys, storeH_ptr, Nat.reduceEqDiff, ↓reduceIte, reduceCtorEq, Nat.reduceAdd, Nat.reduceLeDiff, Int.reduceBEq, Int.reduceLT, Int.reduceLE, Int.reduceEq, ne_eq, not_false_eq_true, Nat.reduceMul, refE_val, refE_sz, outE_val, outE_sz, txE_val, txE_sz, ruleE_val, ruleE_sz, Int.cast_ofNat_Int, *]))
            exact hJ.out _ _ ⟨wo.length - (j + 1), by omega, j + 1, _, ad3, n3, v3, M3, _, by omega, rfl, rfl, rfl, rfl, by simp [hpl], hI3, hO4, hSF, hST⟩ (by repeat (first | exact Agree.refl _ _ | assumption | refine Agree.put ?_ rfl _))
        · have h2' : (((cutW 61 wo[j]).length : Int) == 2) = false := by rw [hcl]; simp; omega
          have hN : Hid (R = none) := by
            unfold Hid
            have e : parOuts (wo.drop j) = none := by
              rw [hps]
              split
              · rename_i a b he; rw [he] at h2; simp at h2
              · rfl
            rw [hS, e]; rfl
          have hf2 := hfail
          clear hfail hbi hbo hI hO hKH hS hps hcl h2 hWk hlo hwj
          repeat' (first | (refine ACalls.start ?_; first | (refine ACalls.ofJi (hc) rfl ?_)) | (refine KV.run _ ?_) | (refine KT.run _ ?_) | (refine AWp.seqH fun KC => ?_) | (refine AWp.block ?_) | (refine AWp.region ?_) | (refine AWp.ret ?_) | (refine AWp.skip ?_) | (refine aops_callH rfl fun kC => ?_) | (refine AWp.condB ?_) | (simp only [bse, wk, tys, storeH_ptr, Nat.reduceEqDiff, ↓reduceIte, reduceCtorEq, Nat.reduceAdd, Nat.reduceLeDiff, Int.reduceBEq, Int.reduceLT, Int.reduceLE, Int.reduceEq, ne_eq, not_false_eq_true, Nat.reduceMul, refE_val, refE_sz, outE_val, outE_sz, txE_val, txE_sz, ruleE_val, ruleE_sz, Int.cast_ofNat_Int, *]))
          have hN3 := fun b0 b1 => hf2 b0 b1 [] false (by unfold Hid; rw [hN.out]; rfl)
          simp only [List.append_nil] at hN3
          exact hN3 _ _
    · have hlt' : ¬ ((2 + j : Nat) : Int) < (W.length : Int) := by have := hWlH.out; omega
      have hje : j = wo.length := by omega
      have hlast : ∀ (b0 b1 : Blk) (b : Bool), Hid (R = if b then some ⟨0, 0, rs, pre⟩ else none) → EOut (RT R) (.tuple #[.agg #[.int .i64 0, .int .i64 0, .slice (some ⟨2, 0, none⟩) rs.length v1, .slice ad2 n2 v2], .bool b]) (b0 :: b1 :: M2) := fun b0 b1 b h => by
        have := hfail b0 b1 [] b h
        rwa [List.append_nil] at this
      clear hfail
      cases ok with
      | false =>
        have hN : Hid (R = none) := hF.out rfl
        clear hbi hbo hI hO hF hT hje hj hWk hlo hpl
        repeat' (first | (refine AWp.mixedT (id := 31) (.cons 0 0 (.cons 1 0 (.cons 2 0 (.cons 3 1 (.cons 4 0 (.cons 5 0 (.cons 6 0 (.cons 8 0 (.cons 7 1 (.cons 9 0 (.cons 10 0 (.cons 11 0 (.cons 12 0 (.alt 13 1 (.alt 14 1 (.alt 15 1 (.cons 16 2 (.cons 17 0 .nil)) (.cons 16 2 (.cons 15 0 (.cons 17 0 .nil)))) (.cons 16 2 (.cons 14 0 (.cons 15 0 (.cons 17 0 .nil))))) (.cons 16 2 (.cons 13 0 (.cons 14 0 (.cons 15 0 (.cons 17 0 .nil))))))))))))))))))) (by kernel_rfl) (by kernel_rfl) ?_) | (refine mopsT_step0 rfl rfl fun KC => ?_) | (refine mopsT_step1 rfl fun KC => ?_) | (refine mopsT_step2 rfl fun KC => ?_) | (refine mopsT_alt1 rfl (fun KC => ?_) ?_) | (refine KT.run _ ?_) | (refine AWp.seqH fun KC => ?_) | (refine AWp.region ?_) | (refine AWp.ret ?_) | (refine AWp.exit ?_) | (refine AWp.condB ?_) | (simp only [bse, wk, tys, storeH_ptr, Nat.reduceEqDiff, ↓reduceIte, reduceCtorEq, Nat.reduceAdd, Nat.reduceLeDiff, Int.reduceBEq, Int.reduceLT, Int.reduceLE, Int.reduceEq, ne_eq, not_false_eq_true, Nat.reduceMul, refE_val, refE_sz, outE_val, outE_sz, txE_val, txE_sz, ruleE_val, ruleE_sz, Int.cast_ofNat_Int, *]))
        all_goals exact hlast _ _ false (by unfold Hid; rw [hN.out]; rfl)
      | true =>
        obtain ⟨hK, hS⟩ := hT.out rfl
        have hS2 : R = parEnd t 0 0 rs pre := by rw [hS, hje, List.drop_length]; simp [parOuts]
        unfold parEnd at hS2
        have hrl := hrsl rs rfl
        have hfl := spec_l3Fault ⟨0, 0, rs, pre⟩ hrl (by dsimp only; omega) hK
        have htx := spec_l3Text ⟨0, 0, rs, pre⟩
        dsimp only at hfl htx
        have hbp : ∀ b0 : Blk, Bor (b0 :: ⟨45, 0, [.int .i64 0, .int .i64 0, .slice (some ⟨2, 0, none⟩) rs.length v1, .slice ad2 n2 v2], 0, true⟩ :: M2) (.pointer (some ⟨1, 0, some 0⟩)) (ip [.int .i64 0, .int .i64 0, islE refE rs, islE outE pre]) := fun b0 => Bor.ptrL (blk := ⟨45, 0, [.int .i64 0, .int .i64 0, .slice (some ⟨2, 0, none⟩) rs.length v1, .slice ad2 n2 v2], 0, true⟩) rfl rfl rfl ⟨_, .cons (.same _ (.flat _ rfl)) (.cons (.same _ (.flat _ rfl)) (.cons (hbi [b0, _] rfl) (.cons (hbo [b0, _] rfl) .nil))), rfl⟩ (by simp)
        have hpf : ∀ (B : Nat) (b0 : Blk), ACalls Tryz.prog B 81 [.pointer (some ⟨1, 0, some 0⟩)] (b0 :: ⟨45, 0, [.int .i64 0, .int .i64 0, .slice (some ⟨2, 0, none⟩) rs.length v1, .slice ad2 n2 v2], 0, true⟩ :: M2) fun d H2 => d = .int .i64 (txFault ⟨0, 0, rs, pre⟩) ∧ (b0 :: ⟨45, 0, [.int .i64 0, .int .i64 0, .slice (some ⟨2, 0, none⟩) rs.length v1, .slice ad2 n2 v2], 0, true⟩ :: M2) = H2 := fun B b0 => ACalls.ofP hfl (.cons (hbp b0) .nil) rfl ⟨rfl, rfl⟩
        clear hbi hbo hI hO hF hT hje hj hWk hlo hpl hS hK hfl hrl
        by_cases hf : txFault ⟨0, 0, rs, pre⟩ = 0
        · have htx := htx hf
          have hpt : ∀ (B : Nat) (b0 : Blk), ACalls Tryz.prog B 82 [.pointer (some ⟨1, 0, some 0⟩)] (b0 :: ⟨45, 0, [.int .i64 0, .int .i64 0, .slice (some ⟨2, 0, none⟩) rs.length v1, .slice ad2 n2 v2], 0, true⟩ :: M2) fun d H2 => d = .string (bs (txT ⟨0, 0, rs, pre⟩)) ∧ (b0 :: ⟨45, 0, [.int .i64 0, .int .i64 0, .slice (some ⟨2, 0, none⟩) rs.length v1, .slice ad2 n2 v2], 0, true⟩ :: M2) = H2 := fun B b0 => ACalls.ofP htx (.cons (hbp b0) .nil) rfl ⟨rfl, rfl⟩
          rw [hf] at hpf
          have hS3 : R = if (txT ⟨0, 0, rs, pre⟩ == t) then some ⟨0, 0, rs, pre⟩ else none := by rw [hS2, hf]; simp
          have hct : (bs (txT ⟨0, 0, rs, pre⟩) == bs t) = (txT ⟨0, 0, rs, pre⟩ == t) := bs_beq _ _
          generalize txT ⟨0, 0, rs, pre⟩ = T at hpt hS3 hct
          obtain ⟨tb, htb⟩ : ∃ tb, tb = (T == t) := ⟨_, rfl⟩
          rw [← htb] at hS3 hct
          clear htx hf hS2 htb hbp
          have hS4 : Hid _ := hS3
          clear hS3
          cases tb
          all_goals
            repeat' (first | (refine AWp.mixedT (id := 31) (.cons 0 0 (.cons 1 0 (.cons 2 0 (.cons 3 1 (.cons 4 0 (.cons 5 0 (.cons 6 0 (.cons 8 0 (.cons 7 1 (.cons 9 0 (.cons 10 0 (.cons 11 0 (.cons 12 0 (.alt 13 1 (.alt 14 1 (.alt 15 1 (.cons 16 2 (.cons 17 0 .nil)) (.cons 16 2 (.cons 15 0 (.cons 17 0 .nil)))) (.cons 16 2 (.cons 14 0 (.cons 15 0 (.cons 17 0 .nil))))) (.cons 16 2 (.cons 13 0 (.cons 14 0 (.cons 15 0 (.cons 17 0 .nil))))))))))))))))))) (by kernel_rfl) (by kernel_rfl) ?_) | (refine mopsT_step0 rfl rfl fun KC => ?_) | (refine mopsT_step1 rfl fun KC => ?_) | (refine mopsT_step2 rfl fun KC => ?_) | (refine mopsT_alt1 rfl (fun KC => ?_) ?_) | (refine ACalls.start ?_; first | (refine ACalls.get (hpf _ _) (by first | exact Nat.le_refl _ | exact Nat.zero_le _ | (simp only [List.length_append, List.length_cons, List.length_nil]; omega) | (simp only [List.length_set]; omega) | omega) (by first | exact Nat.le_refl _ | exact Nat.zero_le _ | (simp only [List.length_append, List.length_cons, List.length_nil]; omega) | (simp only [List.length_set]; omega) | omega) ?_; rintro _ _ ⟨rfl, rfl⟩) | (refine ACalls.get (hpt _ _) (by first | exact Nat.le_refl _ | exact Nat.zero_le _ | (simp only [List.length_append, List.length_cons, List.length_nil]; omega) | (simp only [List.length_set]; omega) | omega) (by first | exact Nat.le_refl _ | exact Nat.zero_le _ | (simp only [List.length_append, List.length_cons, List.length_nil]; omega) | (simp only [List.length_set]; omega) | omega) ?_; rintro _ _ ⟨rfl, rfl⟩)) | (refine KV.run _ ?_) | (refine KT.run _ ?_) | (refine AWp.seqH fun KC => ?_) | (refine AWp.region ?_) | (refine AWp.ret ?_) | (refine AWp.exit ?_) | (refine aops_callH rfl fun kC => ?_) | (refine AWp.condB ?_) | (simp only [bse, wk, tys, storeH_ptr, Nat.reduceEqDiff, ↓reduceIte, reduceCtorEq, Nat.reduceAdd, Nat.reduceLeDiff, Int.reduceBEq, Int.reduceLT, Int.reduceLE, Int.reduceEq, ne_eq, not_false_eq_true, Nat.reduceMul, refE_val, refE_sz, outE_val, outE_sz, txE_val, txE_sz, ruleE_val, ruleE_sz, Int.cast_ofNat_Int, *]))
            all_goals exact hlast _ _ _ hS4
        · have hS3 : Hid (R = if false then some ⟨0, 0, rs, pre⟩ else none) := by unfold Hid; rw [hS2, if_neg fun h => hf h.1]; rfl
          have hf' : (txFault ⟨0, 0, rs, pre⟩ == 0) = false := by simpa using hf
          generalize txFault ⟨0, 0, rs, pre⟩ = F at hpf hf'
          clear htx hf hS2 hbp
          repeat' (first | (refine AWp.mixedT (id := 31) (.cons 0 0 (.cons 1 0 (.cons 2 0 (.cons 3 1 (.cons 4 0 (.cons 5 0 (.cons 6 0 (.cons 8 0 (.cons 7 1 (.cons 9 0 (.cons 10 0 (.cons 11 0 (.cons 12 0 (.alt 13 1 (.alt 14 1 (.alt 15 1 (.cons 16 2 (.cons 17 0 .nil)) (.cons 16 2 (.cons 15 0 (.cons 17 0 .nil)))) (.cons 16 2 (.cons 14 0 (.cons 15 0 (.cons 17 0 .nil))))) (.cons 16 2 (.cons 13 0 (.cons 14 0 (.cons 15 0 (.cons 17 0 .nil))))))))))))))))))) (by kernel_rfl) (by kernel_rfl) ?_) | (refine mopsT_step0 rfl rfl fun KC => ?_) | (refine mopsT_step1 rfl fun KC => ?_) | (refine mopsT_step2 rfl fun KC => ?_) | (refine mopsT_alt1 rfl (fun KC => ?_) ?_) | (refine ACalls.start ?_; first | (refine ACalls.get (hpf _ _) (by first | exact Nat.le_refl _ | exact Nat.zero_le _ | (simp only [List.length_append, List.length_cons, List.length_nil]; omega) | (simp only [List.length_set]; omega) | omega) (by first | exact Nat.le_refl _ | exact Nat.zero_le _ | (simp only [List.length_append, List.length_cons, List.length_nil]; omega) | (simp only [List.length_set]; omega) | omega) ?_; rintro _ _ ⟨rfl, rfl⟩)) | (refine KV.run _ ?_) | (refine KT.run _ ?_) | (refine AWp.seqH fun KC => ?_) | (refine AWp.region ?_) | (refine AWp.ret ?_) | (refine AWp.exit ?_) | (refine aops_callH rfl fun kC => ?_) | (refine AWp.condB ?_) | (simp only [bse, wk, tys, storeH_ptr, Nat.reduceEqDiff, ↓reduceIte, reduceCtorEq, Nat.reduceAdd, Nat.reduceLeDiff, Int.reduceBEq, Int.reduceLT, Int.reduceLE, Int.reduceEq, ne_eq, not_false_eq_true, Nat.reduceMul, refE_val, refE_sz, outE_val, outE_sz, txE_val, txE_sz, ruleE_val, ruleE_sz, Int.cast_ofNat_Int, *]))
          all_goals exact hlast _ _ _ hS3
end Go.BM
/- A transaction read out of a text: the reference, kind 1. -/
set_option linter.unusedVariables false
set_option linter.unusedSimpArgs false
set_option maxRecDepth 100000
set_option maxHeartbeats 4000000
namespace Go.BM
open Go.Proofs Go.RowKit
attribute [local irreducible] ACalls AWp aops qops optK optP cK gateA condK mops qcallK PCalls loadV fldV idxV lenV slV storeH binS
theorem l3Parse1 (t w0 wm wi : List UInt8) (wo : List (List UInt8)) (hw : cutL 32 t = w0 :: wm :: wi :: wo) (h0 : w0 = [106, 111, 105, 110]) (hm : (numD 3 wm).2 = true) (hne : wo.length ≠ 0) (ht : t.length ≤ 300) (R : Option TTx) (hR : R = (insF (cutL 43 wi)).bind fun ins => (parOuts wo).bind fun outs => parEnd t 1 (numD 3 wm).1 ins outs) : ECalls Tryz.prog 55 [.string (bs t)] (RT R) := by
  have hsp := spec_l2Cut t 32 32 rfl (by omega)
  have hlt := cutL_mem 32 t
  have hnl := cutL_len 32 t
  rw [hw] at hlt hnl
  have hlo : ∀ w ∈ wo, w.length ≤ 300 := fun w hw => by have := hlt w (by simp [hw]); omega
  have hwl : wo.length ≤ 301 := by simp only [List.length_cons] at hnl; omega
  have nm : PCalls Tryz.prog 68 [.string (bs wm), .int .i64 3] (.tuple #[.int .i64 (numD 3 wm).1, .bool (numD 3 wm).2]) := spec_l2Number wm 3 (by omega) (by have := hlt wm (by simp); omega)
  rw [hm] at nm
  generalize (numD 3 wm).1 = m at nm hR
  have hil := insF_len (cutL 43 wi)
  have hcl43 := cutL_len 43 wi
  have hwil : wi.length ≤ 300 := by have := hlt wi (by simp); omega
  have hli := spec_l3Ins wi (by have := hlt wi (by simp); omega)
  have hrsl : ∀ rs, insF (cutL 43 wi) = some rs → rs.length ≤ 1048576 := fun rs h => by have := hil rs h; omega
  clear hil hcl43 hwil
  generalize insF (cutL 43 wi) = I at hli hR hrsl
  obtain ⟨W, hW⟩ : ∃ W, W = cutW 32 t := ⟨_, rfl⟩
  have hWe : W = bs w0 :: bs wm :: bs wi :: wo.map bs := by rw [hW]; unfold cutW; rw [hw]; rfl
  rw [← hW] at hsp
  have hWl : W.length = wo.length + 3 := by rw [hWe]; simp
  have hWk : ∀ (j : Nat) (h : j < wo.length), W[3 + j]? = some (bs wo[j]) := fun j h => by rw [hWe, show 3 + j = j + 3 by omega]; simp [h]
  have ix0 : ∀ H : AH, idxV Tryz.prog H 22 (islE strE W) (.int .i64 0) = some (ip (.string (bs w0) :: strE.flat (W.drop 1))) := fun H => by
    have h := ix_at W 0 (by omega) H
    rw [show W[0]'(by omega) = bs w0 by simp [hWe]] at h
    exact h
  have ix1 : ∀ H : AH, idxV Tryz.prog H 22 (islE strE W) (.int .i64 1) = some (ip (.string (bs wm) :: strE.flat (W.drop 2))) := fun H => by
    have h := ix_at W 1 (by omega) H
    rw [show W[1]'(by omega) = bs wm by simp [hWe]] at h
    exact h
  have ix2 : ∀ H : AH, idxV Tryz.prog H 22 (islE strE W) (.int .i64 2) = some (ip (.string (bs wi) :: strE.flat (W.drop 3))) := fun H => by
    have h := ix_at W 2 (by omega) H
    rw [show W[2]'(by omega) = bs wi by simp [hWe]] at h
    exact h
  have ld := ld_str
  have g0 : (bs w0 == ⟨#[112, 97, 121]⟩) = false := by rw [show (bs w0 == ⟨#[112, 97, 121]⟩) = (w0 == [112, 97, 121]) from bs_beq _ _, h0]; rfl
  have g1 : (bs w0 == ⟨#[106, 111, 105, 110]⟩) = true := by rw [show (bs w0 == ⟨#[106, 111, 105, 110]⟩) = (w0 == [106, 111, 105, 110]) from bs_beq _ _, h0]; rfl
  have g2 : (bs w0 == ⟨#[108, 101, 97, 118, 101]⟩) = false := by rw [show (bs w0 == ⟨#[108, 101, 97, 118, 101]⟩) = (w0 == [108, 101, 97, 118, 101]) from bs_beq _ _, h0]; rfl
  have hlen1 : ¬ (W.length : Int) < 4 := by omega
  have hlen2 : ¬ (W.length : Int) < 2 := by omega
  have hwa : IntKind.i64.wrap (2 + 2) = 4 := by decide
  have hwb : IntKind.i64.wrap (2 + 1) = ((3 : Nat) : Int) := by decide
  have h300 : (t.length : Int) ≤ 300 := by omega
  have hWlH : Hid _ := hWl
  clear hlt hnl hw hW hWe h0 hWl
  have hIn : Hid (I = none → R = none) := fun h => by rw [hR, h]; rfl
  have hIs : Hid (∀ rs, I = some rs → R = ((parOuts (wo.drop 0)).map (([] : List TOut) ++ ·)).bind fun outs => parEnd t 1 m rs outs) := fun rs h => by
    rw [hR, h]
    simp
  clear hR
  unfold ECalls
  refine ACalls.enter (n := 136) (rs := [.cell 2 45, .tmp 3]) Tryz.func55 rfl rfl rfl (by kernel_rfl) (by kernel_rfl) (by kernel_rfl) (Nat.le_of_ble_eq_true rfl) ?_
  repeat' (first | (refine ACalls.start ?_; first | (refine ACalls.ofJi (hsp) rfl ?_) | (refine ACalls.ofJi (nm) rfl ?_)) | (refine KV.run _ ?_) | (refine KT.run _ ?_) | (refine AWp.seqH fun KC => ?_) | (refine AWp.region ?_) | (refine AWp.skip ?_) | (refine aops_callH rfl fun kC => ?_) | (refine AWp.condB ?_) | (simp only [bse, wk, tys, storeH_ptr, Nat.reduceEqDiff, ↓reduceIte, reduceCtorEq, Nat.reduceAdd, Nat.reduceLeDiff, Int.reduceBEq, Int.reduceLT, Int.reduceLE, Int.reduceEq, ne_eq, not_false_eq_true, Nat.reduceMul, refE_val, refE_sz, outE_val, outE_sz, txE_val, txE_sz, ruleE_val, ruleE_sz, Int.cast_ofNat_Int, *]))
  refine ACalls.get (hli.use dIns_sh (.cons (.same _ (.flat _ rfl)) .nil)) (by first | exact Nat.le_refl _ | exact Nat.zero_le _ | (simp only [List.length_append, List.length_cons, List.length_nil]; omega) | (simp only [List.length_set]; omega) | omega) (by first | exact Nat.le_refl _ | exact Nat.zero_le _ | (simp only [List.length_append, List.length_cons, List.length_nil]; omega) | (simp only [List.length_set]; omega) | omega) ?_
  rintro _ _ ⟨_, _, hd, rfl, rfl⟩
  rcases hd with ⟨rfl, rfl, rfl⟩ | ⟨rs, v1, rfl, rfl, rfl⟩
  · have hRn : Hid (R = none) := hIn.out rfl
    clear hIn hIs hli
    repeat' (first | (refine KV.run _ ?_) | (refine KT.run _ ?_) | (refine AWp.seqH fun KC => ?_) | (refine AWp.block ?_) | (refine AWp.region ?_) | (simp only [bse, wk, tys, storeH_ptr, Nat.reduceEqDiff, ↓reduceIte, reduceCtorEq, Nat.reduceAdd, Nat.reduceLeDiff, Int.reduceBEq, Int.reduceLT, Int.reduceLE, Int.reduceEq, ne_eq, not_false_eq_true, Nat.reduceMul, refE_val, refE_sz, outE_val, outE_sz, txE_val, txE_sz, ruleE_val, ruleE_sz, Int.cast_ofNat_Int, *]))
    refine AWp.loopH [75, 76, 77, 78, 79, 80, 81, 84, 85, 86, 87, 88, 12, 89, 90, 91, 92, 3, 94, 95, 96, 97, 93, 98, 99, 13, 14, 101, 102, 103, 104, 105, 100, 106, 107, 15, 16, 108, 109, 110, 111, 10, 112, 113, 114, 115, 116, 117, 118, 119, 82, 83, 11] (fun m' e' H' => e' 11 = .int .i64 ((3 : Nat) : Int) ∧ e' 10 = .bool false ∧ H' = _) 0 ⟨rfl, rfl, rfl⟩ ?_
    rintro m' e' H' hA ⟨e11, e10, rfl⟩ hJ
    have a0 := hA 0 rfl; have a2 := hA 2 rfl; have a4 := hA 4 rfl; have a5 := hA 5 rfl; try simp only [bse, wk, tys, storeH_ptr, Nat.reduceEqDiff, ↓reduceIte, reduceCtorEq, Nat.reduceAdd, Nat.reduceLeDiff, Int.reduceBEq, Int.reduceLT, Int.reduceLE, Int.reduceEq, ne_eq, not_false_eq_true, Nat.reduceMul] at a0 a2 a4 a5; clear hA
    repeat' (first | (refine AWp.mixedT (id := 31) (.cons 0 0 (.cons 1 0 (.cons 2 0 (.cons 3 1 (.cons 4 0 (.cons 5 0 (.cons 6 0 (.cons 8 0 (.cons 7 1 (.cons 9 0 (.cons 10 0 (.cons 11 0 (.cons 12 0 (.alt 13 1 (.alt 14 1 (.alt 15 1 (.cons 16 2 (.cons 17 0 .nil)) (.cons 16 2 (.cons 15 0 (.cons 17 0 .nil)))) (.cons 16 2 (.cons 14 0 (.cons 15 0 (.cons 17 0 .nil))))) (.cons 16 2 (.cons 13 0 (.cons 14 0 (.cons 15 0 (.cons 17 0 .nil))))))))))))))))))) (by kernel_rfl) (by kernel_rfl) ?_) | (refine mopsT_step0 rfl rfl fun KC => ?_) | (refine mopsT_step1 rfl fun KC => ?_) | (refine mopsT_step2 rfl fun KC => ?_) | (refine mopsT_alt1 rfl (fun KC => ?_) ?_) | (refine KT.run _ ?_) | (refine AWp.seqH fun KC => ?_) | (refine AWp.region ?_) | (refine AWp.ret ?_) | (refine AWp.exit ?_) | (refine AWp.condB ?_) | (simp only [bse, wk, tys, storeH_ptr, Nat.reduceEqDiff, ↓reduceIte, reduceCtorEq, Nat.reduceAdd, Nat.reduceLeDiff, Int.reduceBEq, Int.reduceLT, Int.reduceLE, Int.reduceEq, ne_eq, not_false_eq_true, Nat.reduceMul, refE_val, refE_sz, outE_val, outE_sz, txE_val, txE_sz, ruleE_val, ruleE_sz, Int.cast_ofNat_Int, *]) | (refine condK_bool (fun hb => ?_) (fun hb => ?_) <;> ((try simp only [Bool.not_eq_true', Bool.not_eq_false'] at hb) <;> (try (have hbe := of_decide_eq_true hb)) <;> (try (have hbe := eq_of_beq hb)))) | (refine aops_partB ?_))
    all_goals exact eout_T (ok := false) (ins := []) (outs := []) hRn.out Bor.nil Bor.nil
  · have hRs : Hid (R = ((parOuts (wo.drop 0)).map (([] : List TOut) ++ ·)).bind fun outs => parEnd t 1 m rs outs) := hIs.out rs rfl
    clear hIn hIs hli
    repeat' (first | (refine KV.run _ ?_) | (refine KT.run _ ?_) | (refine AWp.seqH fun KC => ?_) | (refine AWp.block ?_) | (refine AWp.region ?_) | (simp only [bse, wk, tys, storeH_ptr, Nat.reduceEqDiff, ↓reduceIte, reduceCtorEq, Nat.reduceAdd, Nat.reduceLeDiff, Int.reduceBEq, Int.reduceLT, Int.reduceLE, Int.reduceEq, ne_eq, not_false_eq_true, Nat.reduceMul, refE_val, refE_sz, outE_val, outE_sz, txE_val, txE_sz, ruleE_val, ruleE_sz, Int.cast_ofNat_Int, *]))
    refine AWp.loopH [75, 76, 77, 78, 79, 80, 81, 84, 85, 86, 87, 88, 12, 89, 90, 91, 92, 3, 94, 95, 96, 97, 93, 98, 99, 13, 14, 101, 102, 103, 104, 105, 100, 106, 107, 15, 16, 108, 109, 110, 111, 10, 112, 113, 114, 115, 116, 117, 118, 119, 82, 83, 11] (fun m' e' H' => ∃ (j : Nat) (ok : Bool) (ad2 : Option Addr) (n2 v2 : Nat) (M2 : AH) (pre : List TOut), j ≤ wo.length ∧ m' = wo.length - j ∧ e' 11 = .int .i64 ((3 + j : Nat) : Int) ∧ e' 10 = .bool ok ∧ H' = ⟨45, 0, [.int .i64 0, .int .i64 0, .slice none 0 0, .slice none 0 0], 0, true⟩ :: ⟨45, 0, [.int .i64 1, .int .i64 m, .slice (some ⟨2, 0, none⟩) rs.length v1, .slice ad2 n2 v2], 0, true⟩ :: M2 ∧ pre.length = j ∧ Hid (SlM 2 128 refE M2 (some ⟨2, 0, none⟩) rs.length v1 rs) ∧ Hid (SlM 2 120 outE M2 ad2 n2 v2 pre) ∧ Hid (ok = false → R = none) ∧ Hid (ok = true → (∀ x ∈ pre, x.rule.keys.length ≤ 1000000) ∧ R = ((parOuts (wo.drop j)).map (pre ++ ·)).bind fun outs => parEnd t 1 m rs outs)) wo.length ⟨0, true, none, 0, 0, _, [], by omega, by omega, rfl, rfl, rfl, rfl, SlM.blk (r := 0) rfl rfl rfl, SlM.nil _ _ _ _, (fun h => by cases h), fun _ => ⟨(fun _ h => by simp at h), hRs.out⟩⟩ ?_
    clear hRs
    rintro m' e' H' hA ⟨j, ok, ad2, n2, v2, M2, pre, hj, rfl, e11, e10, rfl, hpl, hI, hO, hF, hT⟩ hJ
    have a0 := hA 0 rfl; have a2 := hA 2 rfl; have a4 := hA 4 rfl; have a5 := hA 5 rfl; try simp only [bse, wk, tys, storeH_ptr, Nat.reduceEqDiff, ↓reduceIte, reduceCtorEq, Nat.reduceAdd, Nat.reduceLeDiff, Int.reduceBEq, Int.reduceLT, Int.reduceLE, Int.reduceEq, ne_eq, not_false_eq_true, Nat.reduceMul] at a0 a2 a4 a5; clear hA
    have hbi := hI.out.bor
    have hbo := hO.out.bor
    have hfail : ∀ (b0 b1 : Blk) (L : AH) (b : Bool), Hid (R = if b then some ⟨1, m, rs, pre⟩ else none) → EOut (RT R) (.tuple #[.agg #[.int .i64 1, .int .i64 m, .slice (some ⟨2, 0, none⟩) rs.length v1, .slice ad2 n2 v2], .bool b]) (b0 :: b1 :: (M2 ++ L)) := fun b0 b1 L b h =>
      eout_T (ok := b) h.out ((hI.out.grow L).bor [b0, b1] rfl) ((hO.out.grow L).bor [b0, b1] rfl)
    by_cases hlt : j < wo.length
    · have hlt' : ((3 + j : Nat) : Int) < (W.length : Int) := by have := hWlH.out; omega
      have hltn : 3 + j < W.length := by have := hWlH.out; omega
      cases ok with
      | false =>
        have hN := fun b0 b1 => hfail b0 b1 [] false (by unfold Hid; rw [hF.out rfl]; rfl)
        simp only [List.append_nil] at hN
        clear hfail hbi hbo hI hO hF hT hWk hlo
        repeat' (first | (refine AWp.mixedT (id := 31) (.cons 0 0 (.cons 1 0 (.cons 2 0 (.cons 3 1 (.cons 4 0 (.cons 5 0 (.cons 6 0 (.cons 8 0 (.cons 7 1 (.cons 9 0 (.cons 10 0 (.cons 11 0 (.cons 12 0 (.alt 13 1 (.alt 14 1 (.alt 15 1 (.cons 16 2 (.cons 17 0 .nil)) (.cons 16 2 (.cons 15 0 (.cons 17 0 .nil)))) (.cons 16 2 (.cons 14 0 (.cons 15 0 (.cons 17 0 .nil))))) (.cons 16 2 (.cons 13 0 (.cons 14 0 (.cons 15 0 (.cons 17 0 .nil))))))))))))))))))) (by kernel_rfl) (by kernel_rfl) ?_) | (refine mopsT_step0 rfl rfl fun KC => ?_) | (refine mopsT_step1 rfl fun KC => ?_) | (refine mopsT_step2 rfl fun KC => ?_) | (refine mopsT_alt1 rfl (fun KC => ?_) ?_) | (refine KT.run _ ?_) | (refine AWp.seqH fun KC => ?_) | (refine AWp.region ?_) | (refine AWp.ret ?_) | (refine AWp.exit ?_) | (refine AWp.condB ?_) | (simp only [bse, wk, tys, storeH_ptr, Nat.reduceEqDiff, ↓reduceIte, reduceCtorEq, Nat.reduceAdd, Nat.reduceLeDiff, Int.reduceBEq, Int.reduceLT, Int.reduceLE, Int.reduceEq, ne_eq, not_false_eq_true, Nat.reduceMul, refE_val, refE_sz, outE_val, outE_sz, txE_val, txE_sz, ruleE_val, ruleE_sz, Int.cast_ofNat_Int, *]))
        all_goals exact hN _ _
      | true =>
        obtain ⟨hK, hS⟩ := hT.out rfl
        have hKH : Hid _ := hK
        clear hF hT hK
        have hw := wr_succ (k := 3 + j) (by omega)
        have hkb : W[3 + j] = bs wo[j] := by have := hWk j hlt; rw [List.getElem?_eq_getElem hltn] at this; injection this
        have hixj := ix_at W (3 + j) hltn
        rw [hkb] at hixj
        have hwj := hlo wo[j] (List.getElem_mem hlt)
        have hc := spec_l2Cut wo[j] 61 61 rfl (by omega)
        have hcl : (cutW 61 wo[j]).length = (cutL 61 wo[j]).length := List.length_map ..
        have hps := parOuts_step wo j hlt
        by_cases h2 : (cutL 61 wo[j]).length = 2
        · obtain ⟨wa, wb, hab⟩ : ∃ wa wb, cutL 61 wo[j] = [wa, wb] := by
            match hq : cutL 61 wo[j], h2 with
            | [wa, wb], _ => exact ⟨wa, wb, rfl⟩
          have hla := cutL_mem 61 wo[j] wa (by rw [hab]; simp)
          have hlb := cutL_mem 61 wo[j] wb (by rw [hab]; simp)
          have hCW : cutW 61 wo[j] = [bs wa, bs wb] := by unfold cutW; rw [hab]; rfl
          rw [hCW] at hc
          rw [hab] at hps
          dsimp only at hps
          have n1 : PCalls Tryz.prog 68 [.string (bs wa), .int .i64 7] (.tuple #[.int .i64 (numD 7 wa).1, .bool (numD 7 wa).2]) := spec_l2Number wa 7 (by omega) (by omega)
          have sw : PCalls Tryz.prog 80 [.string (bs wb), .int .u8 95, .int .u8 32] (.string (bs (swapL 95 32 wb))) := spec_l3Swap wb (by omega) 95 32
          have pr := spec_l2Parse (swapL 95 32 wb) (by unfold swapL; rw [List.length_map]; omega)
          have prk := parR_ok (t := swapL 95 32 wb)
          generalize parR (swapL 95 32 wb) = Q at pr hps prk
          generalize swapL 95 32 wb = ub at sw pr
          generalize numD 7 wa = A at n1 hps
          obtain ⟨x, g1⟩ := A
          obtain ⟨⟨ks, nd, af⟩, g2⟩ := Q
          simp only [ruleE_val] at pr
          dsimp only at n1 hps prk pr
          have q2 : (((2 : Nat) : Int) == 2) = true := rfl
          have iy0 : ∀ H : AH, idxV Tryz.prog H 22 (islE strE [bs wa, bs wb]) (.int .i64 0) = some (ip [.string (bs wa), .string (bs wb)]) := fun H => idxV_isl (P := Tryz.prog) (H := H) (n := 2) (k := 0) (kd := .i64) (cs := strE.flat [bs wa, bs wb]) elZ22 (by omega)
          have iy1 : ∀ H : AH, idxV Tryz.prog H 22 (islE strE [bs wa, bs wb]) (.int .i64 1) = some (ip [.string (bs wb)]) := fun H => idxV_isl (P := Tryz.prog) (H := H) (n := 2) (k := 1) (kd := .i64) (cs := strE.flat [bs wa, bs wb]) elZ22 (by omega)
          obtain ⟨ad3, n3, v3, M3, hap, hO3, hml, hfr⟩ := (hO.out.grow [⟨115, 0, [islE intE ks, .int .i64 nd, .int .i64 af], 0, true⟩]).app (P := Tryz.prog) (B := 0) [⟨45, 0, [.int .i64 0, .int .i64 0, .slice none 0 0, .slice none 0 0], 0, true⟩, ⟨45, 0, [.int .i64 1, .int .i64 m, .slice (some ⟨2, 0, none⟩) rs.length v1, .slice ad2 n2 v2], 0, true⟩] rfl (M2.length + 1 + 1 + 1) (by simp; omega) elZ43 elZ43 zOk43 (Nat.zero_le _) (⟨x, ⟨ks, nd, af⟩⟩ : TOut) (by omega) (by omega)
          have hap2 : appendH Tryz.prog 0 (⟨45, 0, [.int .i64 0, .int .i64 0, .slice none 0 0, .slice none 0 0], 0, true⟩ :: ⟨45, 0, [.int .i64 1, .int .i64 m, .slice (some ⟨2, 0, none⟩) rs.length v1, .slice ad2 n2 v2], 0, true⟩ :: (M2 ++ [⟨115, 0, [islE intE ks, .int .i64 nd, .int .i64 af], 0, true⟩, ⟨120, 4, [.int .i64 x, islE intE ks, .int .i64 nd, .int .i64 af], 0, true⟩])) 43 43 (.slice ad2 n2 v2) (.slice (some ⟨M2.length + 1 + 1 + 1, 0, none⟩) 1 0) = some (.slice ad3 n3 v3, ⟨45, 0, [.int .i64 0, .int .i64 0, .slice none 0 0, .slice none 0 0], 0, true⟩ :: ⟨45, 0, [.int .i64 1, .int .i64 m, .slice (some ⟨2, 0, none⟩) rs.length v1, .slice ad2 n2 v2], 0, true⟩ :: M3) := by
            simp only [List.append_assoc, List.cons_append, List.nil_append] at hap
            exact hap
          have hI3 : Hid (SlM 2 128 refE M3 (some ⟨2, 0, none⟩) rs.length v1 rs) := (hI.out.grow _).two (hO.out.grow _) (by decide) hfr
          have hO4 : Hid (SlM 2 120 outE M3 ad3 n3 v3 (pre ++ [(⟨x, ⟨ks, nd, af⟩⟩ : TOut)])) := hO3
          have hSF : Hid ((g1 && g2) = false → R = none) := fun h => by rw [hS, hps, h]; rfl
          have hST : Hid ((g1 && g2) = true → (∀ z ∈ pre ++ [(⟨x, ⟨ks, nd, af⟩⟩ : TOut)], z.rule.keys.length ≤ 1000000) ∧ R = ((parOuts (wo.drop (j + 1))).map ((pre ++ [(⟨x, ⟨ks, nd, af⟩⟩ : TOut)]) ++ ·)).bind fun outs => parEnd t 1 m rs outs) := fun h => by
            refine ⟨fun z hz => ?_, ?_⟩
            · rcases List.mem_append.1 hz with hz | hz
              · exact hKH.out z hz
              · rw [List.mem_singleton] at hz
                subst hz
                simp only [Bool.and_eq_true] at h
                have := (rf_bounds (prk h.2)).1.2
                dsimp only
                omega
            · rw [hS, hps, h, if_pos rfl, Option.map_map]
              congr 2
              funext l
              simp
          clear hap hO3 hfr hI hO hbi hbo hfail hKH hS hps prk h2 hab hcl hla hlb hCW hwj hWk hlo hml
          have h3 : g1 = false ∨ (g1 = true ∧ g2 = false) ∨ (g1 = true ∧ g2 = true) := by cases g1 <;> cases g2 <;> simp
          rcases h3 with rfl | ⟨rfl, rfl⟩ | ⟨rfl, rfl⟩
          all_goals
            repeat' (first | (refine ACalls.start ?_; first | (refine ACalls.ofJi (hc) rfl ?_) | (refine ACalls.ofJi (n1) rfl ?_) | (refine ACalls.ofJi (sw) rfl ?_) | (refine ACalls.ofJi (pr) rfl ?_)) | (refine KV.run _ ?_) | (refine KT.run _ ?_) | (refine AWp.seqH fun KC => ?_) | (refine AWp.block ?_) | (refine AWp.region ?_) | (refine AWp.skip ?_) | (refine aops_callH rfl fun kC => ?_) | (refine AWp.condB ?_) | (simp only [bse, wk, tys, storeH_ptr, Nat.reduceEqDiff, ↓reduceIte, reduceCtorEq, Nat.reduceAdd, Nat.reduceLeDiff, Int.reduceBEq, Int.reduceLT, Int.reduceLE, Int.reduceEq, ne_eq, not_false_eq_true, Nat.reduceMul, refE_val, refE_sz, outE_val, outE_sz, txE_val, txE_sz, ruleE_val, ruleE_sz, Int.cast_ofNat_Int, *]))
            exact hJ.out _ _ ⟨wo.length - (j + 1), by omega, j + 1, _, ad3, n3, v3, M3, _, by omega, rfl, rfl, rfl, rfl, by simp [hpl], hI3, hO4, hSF, hST⟩ (by repeat (first | exact Agree.refl _ _ | assumption | refine Agree.put ?_ rfl _))
        · have h2' : (((cutW 61 wo[j]).length : Int) == 2) = false := by rw [hcl]; simp; omega
          have hN : Hid (R = none) := by
            unfold Hid
            have e : parOuts (wo.drop j) = none := by
              rw [hps]
              split
              · rename_i a b he; rw [he] at h2; simp at h2
              · rfl
            rw [hS, e]; rfl
          have hf2 := hfail
          clear hfail hbi hbo hI hO hKH hS hps hcl h2 hWk hlo hwj
          repeat' (first | (refine ACalls.start ?_; first | (refine ACalls.ofJi (hc) rfl ?_)) | (refine KV.run _ ?_) | (refine KT.run _ ?_) | (refine AWp.seqH fun KC => ?_) | (refine AWp.block ?_) | (refine AWp.region ?_) | (refine AWp.ret ?_) | (refine AWp.skip ?_) | (refine aops_callH rfl fun kC => ?_) | (refine AWp.condB ?_) | (simp only [bse, wk, tys, storeH_ptr, Nat.reduceEqDiff, ↓reduceIte, reduceCtorEq, Nat.reduceAdd, Nat.reduceLeDiff, Int.reduceBEq, Int.reduceLT, Int.reduceLE, Int.reduceEq, ne_eq, not_false_eq_true, Nat.reduceMul, refE_val, refE_sz, outE_val, outE_sz, txE_val, txE_sz, ruleE_val, ruleE_sz, Int.cast_ofNat_Int, *]))
          have hN3 := fun b0 b1 => hf2 b0 b1 [] false (by unfold Hid; rw [hN.out]; rfl)
          simp only [List.append_nil] at hN3
          exact hN3 _ _
    · have hlt' : ¬ ((3 + j : Nat) : Int) < (W.length : Int) := by have := hWlH.out; omega
      have hje : j = wo.length := by omega
      have hlast : ∀ (b0 b1 : Blk) (b : Bool), Hid (R = if b then some ⟨1, m, rs, pre⟩ else none) → EOut (RT R) (.tuple #[.agg #[.int .i64 1, .int .i64 m, .slice (some ⟨2, 0, none⟩) rs.length v1, .slice ad2 n2 v2], .bool b]) (b0 :: b1 :: M2) := fun b0 b1 b h => by
        have := hfail b0 b1 [] b h
        rwa [List.append_nil] at this
      clear hfail
      cases ok with
      | false =>
        have hN : Hid (R = none) := hF.out rfl
        clear hbi hbo hI hO hF hT hje hj hWk hlo hpl
        repeat' (first | (refine AWp.mixedT (id := 31) (.cons 0 0 (.cons 1 0 (.cons 2 0 (.cons 3 1 (.cons 4 0 (.cons 5 0 (.cons 6 0 (.cons 8 0 (.cons 7 1 (.cons 9 0 (.cons 10 0 (.cons 11 0 (.cons 12 0 (.alt 13 1 (.alt 14 1 (.alt 15 1 (.cons 16 2 (.cons 17 0 .nil)) (.cons 16 2 (.cons 15 0 (.cons 17 0 .nil)))) (.cons 16 2 (.cons 14 0 (.cons 15 0 (.cons 17 0 .nil))))) (.cons 16 2 (.cons 13 0 (.cons 14 0 (.cons 15 0 (.cons 17 0 .nil))))))))))))))))))) (by kernel_rfl) (by kernel_rfl) ?_) | (refine mopsT_step0 rfl rfl fun KC => ?_) | (refine mopsT_step1 rfl fun KC => ?_) | (refine mopsT_step2 rfl fun KC => ?_) | (refine mopsT_alt1 rfl (fun KC => ?_) ?_) | (refine KT.run _ ?_) | (refine AWp.seqH fun KC => ?_) | (refine AWp.region ?_) | (refine AWp.ret ?_) | (refine AWp.exit ?_) | (refine AWp.condB ?_) | (simp only [bse, wk, tys, storeH_ptr, Nat.reduceEqDiff, ↓reduceIte, reduceCtorEq, Nat.reduceAdd, Nat.reduceLeDiff, Int.reduceBEq, Int.reduceLT, Int.reduceLE, Int.reduceEq, ne_eq, not_false_eq_true, Nat.reduceMul, refE_val, refE_sz, outE_val, outE_sz, txE_val, txE_sz, ruleE_val, ruleE_sz, Int.cast_ofNat_Int, *]))
        all_goals exact hlast _ _ false (by unfold Hid; rw [hN.out]; rfl)
      | true =>
        obtain ⟨hK, hS⟩ := hT.out rfl
        have hS2 : R = parEnd t 1 m rs pre := by rw [hS, hje, List.drop_length]; simp [parOuts]
        unfold parEnd at hS2
        have hrl := hrsl rs rfl
        have hfl := spec_l3Fault ⟨1, m, rs, pre⟩ hrl (by dsimp only; omega) hK
        have htx := spec_l3Text ⟨1, m, rs, pre⟩
        dsimp only at hfl htx
        have hbp : ∀ b0 : Blk, Bor (b0 :: ⟨45, 0, [.int .i64 1, .int .i64 m, .slice (some ⟨2, 0, none⟩) rs.length v1, .slice ad2 n2 v2], 0, true⟩ :: M2) (.pointer (some ⟨1, 0, some 0⟩)) (ip [.int .i64 1, .int .i64 m, islE refE rs, islE outE pre]) := fun b0 => Bor.ptrL (blk := ⟨45, 0, [.int .i64 1, .int .i64 m, .slice (some ⟨2, 0, none⟩) rs.length v1, .slice ad2 n2 v2], 0, true⟩) rfl rfl rfl ⟨_, .cons (.same _ (.flat _ rfl)) (.cons (.same _ (.flat _ rfl)) (.cons (hbi [b0, _] rfl) (.cons (hbo [b0, _] rfl) .nil))), rfl⟩ (by simp)
        have hpf : ∀ (B : Nat) (b0 : Blk), ACalls Tryz.prog B 81 [.pointer (some ⟨1, 0, some 0⟩)] (b0 :: ⟨45, 0, [.int .i64 1, .int .i64 m, .slice (some ⟨2, 0, none⟩) rs.length v1, .slice ad2 n2 v2], 0, true⟩ :: M2) fun d H2 => d = .int .i64 (txFault ⟨1, m, rs, pre⟩) ∧ (b0 :: ⟨45, 0, [.int .i64 1, .int .i64 m, .slice (some ⟨2, 0, none⟩) rs.length v1, .slice ad2 n2 v2], 0, true⟩ :: M2) = H2 := fun B b0 => ACalls.ofP hfl (.cons (hbp b0) .nil) rfl ⟨rfl, rfl⟩
        clear hbi hbo hI hO hF hT hje hj hWk hlo hpl hS hK hfl hrl
        by_cases hf : txFault ⟨1, m, rs, pre⟩ = 0
        · have htx := htx hf
          have hpt : ∀ (B : Nat) (b0 : Blk), ACalls Tryz.prog B 82 [.pointer (some ⟨1, 0, some 0⟩)] (b0 :: ⟨45, 0, [.int .i64 1, .int .i64 m, .slice (some ⟨2, 0, none⟩) rs.length v1, .slice ad2 n2 v2], 0, true⟩ :: M2) fun d H2 => d = .string (bs (txT ⟨1, m, rs, pre⟩)) ∧ (b0 :: ⟨45, 0, [.int .i64 1, .int .i64 m, .slice (some ⟨2, 0, none⟩) rs.length v1, .slice ad2 n2 v2], 0, true⟩ :: M2) = H2 := fun B b0 => ACalls.ofP htx (.cons (hbp b0) .nil) rfl ⟨rfl, rfl⟩
          rw [hf] at hpf
          have hS3 : R = if (txT ⟨1, m, rs, pre⟩ == t) then some ⟨1, m, rs, pre⟩ else none := by rw [hS2, hf]; simp
          have hct : (bs (txT ⟨1, m, rs, pre⟩) == bs t) = (txT ⟨1, m, rs, pre⟩ == t) := bs_beq _ _
          generalize txT ⟨1, m, rs, pre⟩ = T at hpt hS3 hct
          obtain ⟨tb, htb⟩ : ∃ tb, tb = (T == t) := ⟨_, rfl⟩
          rw [← htb] at hS3 hct
          clear htx hf hS2 htb hbp
          have hS4 : Hid _ := hS3
          clear hS3
          cases tb
          all_goals
            repeat' (first | (refine AWp.mixedT (id := 31) (.cons 0 0 (.cons 1 0 (.cons 2 0 (.cons 3 1 (.cons 4 0 (.cons 5 0 (.cons 6 0 (.cons 8 0 (.cons 7 1 (.cons 9 0 (.cons 10 0 (.cons 11 0 (.cons 12 0 (.alt 13 1 (.alt 14 1 (.alt 15 1 (.cons 16 2 (.cons 17 0 .nil)) (.cons 16 2 (.cons 15 0 (.cons 17 0 .nil)))) (.cons 16 2 (.cons 14 0 (.cons 15 0 (.cons 17 0 .nil))))) (.cons 16 2 (.cons 13 0 (.cons 14 0 (.cons 15 0 (.cons 17 0 .nil))))))))))))))))))) (by kernel_rfl) (by kernel_rfl) ?_) | (refine mopsT_step0 rfl rfl fun KC => ?_) | (refine mopsT_step1 rfl fun KC => ?_) | (refine mopsT_step2 rfl fun KC => ?_) | (refine mopsT_alt1 rfl (fun KC => ?_) ?_) | (refine ACalls.start ?_; first | (refine ACalls.get (hpf _ _) (by first | exact Nat.le_refl _ | exact Nat.zero_le _ | (simp only [List.length_append, List.length_cons, List.length_nil]; omega) | (simp only [List.length_set]; omega) | omega) (by first | exact Nat.le_refl _ | exact Nat.zero_le _ | (simp only [List.length_append, List.length_cons, List.length_nil]; omega) | (simp only [List.length_set]; omega) | omega) ?_; rintro _ _ ⟨rfl, rfl⟩) | (refine ACalls.get (hpt _ _) (by first | exact Nat.le_refl _ | exact Nat.zero_le _ | (simp only [List.length_append, List.length_cons, List.length_nil]; omega) | (simp only [List.length_set]; omega) | omega) (by first | exact Nat.le_refl _ | exact Nat.zero_le _ | (simp only [List.length_append, List.length_cons, List.length_nil]; omega) | (simp only [List.length_set]; omega) | omega) ?_; rintro _ _ ⟨rfl, rfl⟩)) | (refine KV.run _ ?_) | (refine KT.run _ ?_) | (refine AWp.seqH fun KC => ?_) | (refine AWp.region ?_) | (refine AWp.ret ?_) | (refine AWp.exit ?_) | (refine aops_callH rfl fun kC => ?_) | (refine AWp.condB ?_) | (simp only [bse, wk, tys, storeH_ptr, Nat.reduceEqDiff, ↓reduceIte, reduceCtorEq, Nat.reduceAdd, Nat.reduceLeDiff, Int.reduceBEq, Int.reduceLT, Int.reduceLE, Int.reduceEq, ne_eq, not_false_eq_true, Nat.reduceMul, refE_val, refE_sz, outE_val, outE_sz, txE_val, txE_sz, ruleE_val, ruleE_sz, Int.cast_ofNat_Int, *]))
            all_goals exact hlast _ _ _ hS4
        · have hS3 : Hid (R = if false then some ⟨1, m, rs, pre⟩ else none) := by unfold Hid; rw [hS2, if_neg fun h => hf h.1]; rfl
          have hf' : (txFault ⟨1, m, rs, pre⟩ == 0) = false := by simpa using hf
          generalize txFault ⟨1, m, rs, pre⟩ = F at hpf hf'
          clear htx hf hS2 hbp
          repeat' (first | (refine AWp.mixedT (id := 31) (.cons 0 0 (.cons 1 0 (.cons 2 0 (.cons 3 1 (.cons 4 0 (.cons 5 0 (.cons 6 0 (.cons 8 0 (.cons 7 1 (.cons 9 0 (.cons 10 0 (.cons 11 0 (.cons 12 0 (.alt 13 1 (.alt 14 1 (.alt 15 1 (.cons 16 2 (.cons 17 0 .nil)) (.cons 16 2 (.cons 15 0 (.cons 17 0 .nil)))) (.cons 16 2 (.cons 14 0 (.cons 15 0 (.cons 17 0 .nil))))) (.cons 16 2 (.cons 13 0 (.cons 14 0 (.cons 15 0 (.cons 17 0 .nil))))))))))))))))))) (by kernel_rfl) (by kernel_rfl) ?_) | (refine mopsT_step0 rfl rfl fun KC => ?_) | (refine mopsT_step1 rfl fun KC => ?_) | (refine mopsT_step2 rfl fun KC => ?_) | (refine mopsT_alt1 rfl (fun KC => ?_) ?_) | (refine ACalls.start ?_; first | (refine ACalls.get (hpf _ _) (by first | exact Nat.le_refl _ | exact Nat.zero_le _ | (simp only [List.length_append, List.length_cons, List.length_nil]; omega) | (simp only [List.length_set]; omega) | omega) (by first | exact Nat.le_refl _ | exact Nat.zero_le _ | (simp only [List.length_append, List.length_cons, List.length_nil]; omega) | (simp only [List.length_set]; omega) | omega) ?_; rintro _ _ ⟨rfl, rfl⟩)) | (refine KV.run _ ?_) | (refine KT.run _ ?_) | (refine AWp.seqH fun KC => ?_) | (refine AWp.region ?_) | (refine AWp.ret ?_) | (refine AWp.exit ?_) | (refine aops_callH rfl fun kC => ?_) | (refine AWp.condB ?_) | (simp only [bse, wk, tys, storeH_ptr, Nat.reduceEqDiff, ↓reduceIte, reduceCtorEq, Nat.reduceAdd, Nat.reduceLeDiff, Int.reduceBEq, Int.reduceLT, Int.reduceLE, Int.reduceEq, ne_eq, not_false_eq_true, Nat.reduceMul, refE_val, refE_sz, outE_val, outE_sz, txE_val, txE_sz, ruleE_val, ruleE_sz, Int.cast_ofNat_Int, *]))
          all_goals exact hlast _ _ _ hS3
end Go.BM
/- A transaction read out of a text: the reference, kind 2. -/
set_option linter.unusedVariables false
set_option linter.unusedSimpArgs false
set_option maxRecDepth 100000
set_option maxHeartbeats 4000000
namespace Go.BM
open Go.Proofs Go.RowKit
attribute [local irreducible] ACalls AWp aops qops optK optP cK gateA condK mops qcallK PCalls loadV fldV idxV lenV slV storeH binS
theorem l3Parse2 (t w0 wm wi : List UInt8) (wo : List (List UInt8)) (hw : cutL 32 t = w0 :: wm :: wi :: wo) (h0 : w0 = [108, 101, 97, 118, 101]) (hm : (numD 3 wm).2 = true) (hne : wo.length ≠ 0) (ht : t.length ≤ 300) (R : Option TTx) (hR : R = (insF (cutL 43 wi)).bind fun ins => (parOuts wo).bind fun outs => parEnd t 2 (numD 3 wm).1 ins outs) : ECalls Tryz.prog 55 [.string (bs t)] (RT R) := by
  have hsp := spec_l2Cut t 32 32 rfl (by omega)
  have hlt := cutL_mem 32 t
  have hnl := cutL_len 32 t
  rw [hw] at hlt hnl
  have hlo : ∀ w ∈ wo, w.length ≤ 300 := fun w hw => by have := hlt w (by simp [hw]); omega
  have hwl : wo.length ≤ 301 := by simp only [List.length_cons] at hnl; omega
  have nm : PCalls Tryz.prog 68 [.string (bs wm), .int .i64 3] (.tuple #[.int .i64 (numD 3 wm).1, .bool (numD 3 wm).2]) := spec_l2Number wm 3 (by omega) (by have := hlt wm (by simp); omega)
  rw [hm] at nm
  generalize (numD 3 wm).1 = m at nm hR
  have hil := insF_len (cutL 43 wi)
  have hcl43 := cutL_len 43 wi
  have hwil : wi.length ≤ 300 := by have := hlt wi (by simp); omega
  have hli := spec_l3Ins wi (by have := hlt wi (by simp); omega)
  have hrsl : ∀ rs, insF (cutL 43 wi) = some rs → rs.length ≤ 1048576 := fun rs h => by have := hil rs h; omega
  clear hil hcl43 hwil
  generalize insF (cutL 43 wi) = I at hli hR hrsl
  obtain ⟨W, hW⟩ : ∃ W, W = cutW 32 t := ⟨_, rfl⟩
  have hWe : W = bs w0 :: bs wm :: bs wi :: wo.map bs := by rw [hW]; unfold cutW; rw [hw]; rfl
  rw [← hW] at hsp
  have hWl : W.length = wo.length + 3 := by rw [hWe]; simp
  have hWk : ∀ (j : Nat) (h : j < wo.length), W[3 + j]? = some (bs wo[j]) := fun j h => by rw [hWe, show 3 + j = j + 3 by omega]; simp [h]
  have ix0 : ∀ H : AH, idxV Tryz.prog H 22 (islE strE W) (.int .i64 0) = some (ip (.string (bs w0) :: strE.flat (W.drop 1))) := fun H => by
    have h := ix_at W 0 (by omega) H
    rw [show W[0]'(by omega) = bs w0 by simp [hWe]] at h
    exact h
  have ix1 : ∀ H : AH, idxV Tryz.prog H 22 (islE strE W) (.int .i64 1) = some (ip (.string (bs wm) :: strE.flat (W.drop 2))) := fun H => by
    have h := ix_at W 1 (by omega) H
    rw [show W[1]'(by omega) = bs wm by simp [hWe]] at h
    exact h
  have ix2 : ∀ H : AH, idxV Tryz.prog H 22 (islE strE W) (.int .i64 2) = some (ip (.string (bs wi) :: strE.flat (W.drop 3))) := fun H => by
    have h := ix_at W 2 (by omega) H
    rw [show W[2]'(by omega) = bs wi by simp [hWe]] at h
    exact h
  have ld := ld_str
  have g0 : (bs w0 == ⟨#[112, 97, 121]⟩) = false := by rw [show (bs w0 == ⟨#[112, 97, 121]⟩) = (w0 == [112, 97, 121]) from bs_beq _ _, h0]; rfl
  have g1 : (bs w0 == ⟨#[106, 111, 105, 110]⟩) = false := by rw [show (bs w0 == ⟨#[106, 111, 105, 110]⟩) = (w0 == [106, 111, 105, 110]) from bs_beq _ _, h0]; rfl
  have g2 : (bs w0 == ⟨#[108, 101, 97, 118, 101]⟩) = true := by rw [show (bs w0 == ⟨#[108, 101, 97, 118, 101]⟩) = (w0 == [108, 101, 97, 118, 101]) from bs_beq _ _, h0]; rfl
  have hlen1 : ¬ (W.length : Int) < 4 := by omega
  have hlen2 : ¬ (W.length : Int) < 2 := by omega
  have hwa : IntKind.i64.wrap (2 + 2) = 4 := by decide
  have hwb : IntKind.i64.wrap (2 + 1) = ((3 : Nat) : Int) := by decide
  have h300 : (t.length : Int) ≤ 300 := by omega
  have hWlH : Hid _ := hWl
  clear hlt hnl hw hW hWe h0 hWl
  have hIn : Hid (I = none → R = none) := fun h => by rw [hR, h]; rfl
  have hIs : Hid (∀ rs, I = some rs → R = ((parOuts (wo.drop 0)).map (([] : List TOut) ++ ·)).bind fun outs => parEnd t 2 m rs outs) := fun rs h => by
    rw [hR, h]
    simp
  clear hR
  unfold ECalls
  refine ACalls.enter (n := 136) (rs := [.cell 2 45, .tmp 3]) Tryz.func55 rfl rfl rfl (by kernel_rfl) (by kernel_rfl) (by kernel_rfl) (Nat.le_of_ble_eq_true rfl) ?_
  repeat' (first | (refine ACalls.start ?_; first | (refine ACalls.ofJi (hsp) rfl ?_) | (refine ACalls.ofJi (nm) rfl ?_)) | (refine KV.run _ ?_) | (refine KT.run _ ?_) | (refine AWp.seqH fun KC => ?_) | (refine AWp.region ?_) | (refine AWp.skip ?_) | (refine aops_callH rfl fun kC => ?_) | (refine AWp.condB ?_) | (simp only [bse, wk, tys, storeH_ptr, Nat.reduceEqDiff, ↓reduceIte, reduceCtorEq, Nat.reduceAdd, Nat.reduceLeDiff, Int.reduceBEq, Int.reduceLT, Int.reduceLE, Int.reduceEq, ne_eq, not_false_eq_true, Nat.reduceMul, refE_val, refE_sz, outE_val, outE_sz, txE_val, txE_sz, ruleE_val, ruleE_sz, Int.cast_ofNat_Int, *]))
  refine ACalls.get (hli.use dIns_sh (.cons (.same _ (.flat _ rfl)) .nil)) (by first | exact Nat.le_refl _ | exact Nat.zero_le _ | (simp only [List.length_append, List.length_cons, List.length_nil]; omega) | (simp only [List.length_set]; omega) | omega) (by first | exact Nat.le_refl _ | exact Nat.zero_le _ | (simp only [List.length_append, List.length_cons, List.length_nil]; omega) | (simp only [List.length_set]; omega) | omega) ?_
  rintro _ _ ⟨_, _, hd, rfl, rfl⟩
  rcases hd with ⟨rfl, rfl, rfl⟩ | ⟨rs, v1, rfl, rfl, rfl⟩
  · have hRn : Hid (R = none) := hIn.out rfl
    clear hIn hIs hli
    repeat' (first | (refine KV.run _ ?_) | (refine KT.run _ ?_) | (refine AWp.seqH fun KC => ?_) | (refine AWp.block ?_) | (refine AWp.region ?_) | (simp only [bse, wk, tys, storeH_ptr, Nat.reduceEqDiff, ↓reduceIte, reduceCtorEq, Nat.reduceAdd, Nat.reduceLeDiff, Int.reduceBEq, Int.reduceLT, Int.reduceLE, Int.reduceEq, ne_eq, not_false_eq_true, Nat.reduceMul, refE_val, refE_sz, outE_val, outE_sz, txE_val, txE_sz, ruleE_val, ruleE_sz, Int.cast_ofNat_Int, *]))
    refine AWp.loopH [75, 76, 77, 78, 79, 80, 81, 84, 85, 86, 87, 88, 12, 89, 90, 91, 92, 3, 94, 95, 96, 97, 93, 98, 99, 13, 14, 101, 102, 103, 104, 105, 100, 106, 107, 15, 16, 108, 109, 110, 111, 10, 112, 113, 114, 115, 116, 117, 118, 119, 82, 83, 11] (fun m' e' H' => e' 11 = .int .i64 ((3 : Nat) : Int) ∧ e' 10 = .bool false ∧ H' = _) 0 ⟨rfl, rfl, rfl⟩ ?_
    rintro m' e' H' hA ⟨e11, e10, rfl⟩ hJ
    have a0 := hA 0 rfl; have a2 := hA 2 rfl; have a4 := hA 4 rfl; have a5 := hA 5 rfl; try simp only [bse, wk, tys, storeH_ptr, Nat.reduceEqDiff, ↓reduceIte, reduceCtorEq, Nat.reduceAdd, Nat.reduceLeDiff, Int.reduceBEq, Int.reduceLT, Int.reduceLE, Int.reduceEq, ne_eq, not_false_eq_true, Nat.reduceMul] at a0 a2 a4 a5; clear hA
    repeat' (first | (refine AWp.mixedT (id := 31) (.cons 0 0 (.cons 1 0 (.cons 2 0 (.cons 3 1 (.cons 4 0 (.cons 5 0 (.cons 6 0 (.cons 8 0 (.cons 7 1 (.cons 9 0 (.cons 10 0 (.cons 11 0 (.cons 12 0 (.alt 13 1 (.alt 14 1 (.alt 15 1 (.cons 16 2 (.cons 17 0 .nil)) (.cons 16 2 (.cons 15 0 (.cons 17 0 .nil)))) (.cons 16 2 (.cons 14 0 (.cons 15 0 (.cons 17 0 .nil))))) (.cons 16 2 (.cons 13 0 (.cons 14 0 (.cons 15 0 (.cons 17 0 .nil))))))))))))))))))) (by kernel_rfl) (by kernel_rfl) ?_) | (refine mopsT_step0 rfl rfl fun KC => ?_) | (refine mopsT_step1 rfl fun KC => ?_) | (refine mopsT_step2 rfl fun KC => ?_) | (refine mopsT_alt1 rfl (fun KC => ?_) ?_) | (refine KT.run _ ?_) | (refine AWp.seqH fun KC => ?_) | (refine AWp.region ?_) | (refine AWp.ret ?_) | (refine AWp.exit ?_) | (refine AWp.condB ?_) | (simp only [bse, wk, tys, storeH_ptr, Nat.reduceEqDiff, ↓reduceIte, reduceCtorEq, Nat.reduceAdd, Nat.reduceLeDiff, Int.reduceBEq, Int.reduceLT, Int.reduceLE, Int.reduceEq, ne_eq, not_false_eq_true, Nat.reduceMul, refE_val, refE_sz, outE_val, outE_sz, txE_val, txE_sz, ruleE_val, ruleE_sz, Int.cast_ofNat_Int, *]) | (refine condK_bool (fun hb => ?_) (fun hb => ?_) <;> ((try simp only [Bool.not_eq_true', Bool.not_eq_false'] at hb) <;> (try (have hbe := of_decide_eq_true hb)) <;> (try (have hbe := eq_of_beq hb)))) | (refine aops_partB ?_))
    all_goals exact eout_T (ok := false) (ins := []) (outs := []) hRn.out Bor.nil Bor.nil
  · have hRs : Hid (R = ((parOuts (wo.drop 0)).map (([] : List TOut) ++ ·)).bind fun outs => parEnd t 2 m rs outs) := hIs.out rs rfl
    clear hIn hIs hli
    repeat' (first | (refine KV.run _ ?_) | (refine KT.run _ ?_) | (refine AWp.seqH fun KC => ?_) | (refine AWp.block ?_) | (refine AWp.region ?_) | (simp only [bse, wk, tys, storeH_ptr, Nat.reduceEqDiff, ↓reduceIte, reduceCtorEq, Nat.reduceAdd, Nat.reduceLeDiff, Int.reduceBEq, Int.reduceLT, Int.reduceLE, Int.reduceEq, ne_eq, not_false_eq_true, Nat.reduceMul, refE_val, refE_sz, outE_val, outE_sz, txE_val, txE_sz, ruleE_val, ruleE_sz, Int.cast_ofNat_Int, *]))
    refine AWp.loopH [75, 76, 77, 78, 79, 80, 81, 84, 85, 86, 87, 88, 12, 89, 90, 91, 92, 3, 94, 95, 96, 97, 93, 98, 99, 13, 14, 101, 102, 103, 104, 105, 100, 106, 107, 15, 16, 108, 109, 110, 111, 10, 112, 113, 114, 115, 116, 117, 118, 119, 82, 83, 11] (fun m' e' H' => ∃ (j : Nat) (ok : Bool) (ad2 : Option Addr) (n2 v2 : Nat) (M2 : AH) (pre : List TOut), j ≤ wo.length ∧ m' = wo.length - j ∧ e' 11 = .int .i64 ((3 + j : Nat) : Int) ∧ e' 10 = .bool ok ∧ H' = ⟨45, 0, [.int .i64 0, .int .i64 0, .slice none 0 0, .slice none 0 0], 0, true⟩ :: ⟨45, 0, [.int .i64 2, .int .i64 m, .slice (some ⟨2, 0, none⟩) rs.length v1, .slice ad2 n2 v2], 0, true⟩ :: M2 ∧ pre.length = j ∧ Hid (SlM 2 128 refE M2 (some ⟨2, 0, none⟩) rs.length v1 rs) ∧ Hid (SlM 2 120 outE M2 ad2 n2 v2 pre) ∧ Hid (ok = false → R = none) ∧ Hid (ok = true → (∀ x ∈ pre, x.rule.keys.length ≤ 1000000) ∧ R = ((parOuts (wo.drop j)).map (pre ++ ·)).bind fun outs => parEnd t 2 m rs outs)) wo.length ⟨0, true, none, 0, 0, _, [], by omega, by omega, rfl, rfl, rfl, rfl, SlM.blk (r := 0) rfl rfl rfl, SlM.nil _ _ _ _, (fun h => by cases h), fun _ => ⟨(fun _ h => by simp at h), hRs.out⟩⟩ ?_
    clear hRs
    rintro m' e' H' hA ⟨j, ok, ad2, n2, v2, M2, pre, hj, rfl, e11, e10, rfl, hpl, hI, hO, hF, hT⟩ hJ
    have a0 := hA 0 rfl; have a2 := hA 2 rfl; have a4 := hA 4 rfl; have a5 := hA 5 rfl; try simp only [bse, wk, tys, storeH_ptr, Nat.reduceEqDiff, ↓reduceIte, reduceCtorEq, Nat.reduceAdd, Nat.reduceLeDiff, Int.reduceBEq, Int.reduceLT, Int.reduceLE, Int.reduceEq, ne_eq, not_false_eq_true, Nat.reduceMul] at a0 a2 a4 a5; clear hA
    have hbi := hI.out.bor
    have hbo := hO.out.bor
    have hfail : ∀ (b0 b1 : Blk) (L : AH) (b : Bool), Hid (R = if b then some ⟨2, m, rs, pre⟩ else none) → EOut (RT R) (.tuple #[.agg #[.int .i64 2, .int .i64 m, .slice (some ⟨2, 0, none⟩) rs.length v1, .slice ad2 n2 v2], .bool b]) (b0 :: b1 :: (M2 ++ L)) := fun b0 b1 L b h =>
      eout_T (ok := b) h.out ((hI.out.grow L).bor [b0, b1] rfl) ((hO.out.grow L).bor [b0, b1] rfl)
    by_cases hlt : j < wo.length
    · have hlt' : ((3 + j : Nat) : Int) < (W.length : Int) := by have := hWlH.out; omega
      have hltn : 3 + j < W.length := by have := hWlH.out; omega
      cases ok with
      | false =>
        have hN := fun b0 b1 => hfail b0 b1 [] false (by unfold Hid; rw [hF.out rfl]; rfl)
        simp only [List.append_nil] at hN
        clear hfail hbi hbo hI hO hF hT hWk hlo
        repeat' (first | (refine AWp.mixedT (id := 31) (.cons 0 0 (.cons 1 0 (.cons 2 0 (.cons 3 1 (.cons 4 0 (.cons 5 0 (.cons 6 0 (.cons 8 0 (.cons 7 1 (.cons 9 0 (.cons 10 0 (.cons 11 0 (.cons 12 0 (.alt 13 1 (.alt 14 1 (.alt 15 1 (.cons 16 2 (.cons 17 0 .nil)) (.cons 16 2 (.cons 15 0 (.cons 17 0 .nil)))) (.cons 16 2 (.cons 14 0 (.cons 15 0 (.cons 17 0 .nil))))) (.cons 16 2 (.cons 13 0 (.cons 14 0 (.cons 15 0 (.cons 17 0 .nil))))))))))))))))))) (by kernel_rfl) (by kernel_rfl) ?_) | (refine mopsT_step0 rfl rfl fun KC => ?_) | (refine mopsT_step1 rfl fun KC => ?_) | (refine mopsT_step2 rfl fun KC => ?_) | (refine mopsT_alt1 rfl (fun KC => ?_) ?_) | (refine KT.run _ ?_) | (refine AWp.seqH fun KC => ?_) | (refine AWp.region ?_) | (refine AWp.ret ?_) | (refine AWp.exit ?_) | (refine AWp.condB ?_) | (simp only [bse, wk, tys, storeH_ptr, Nat.reduceEqDiff, ↓reduceIte, reduceCtorEq, Nat.reduceAdd, Nat.reduceLeDiff, Int.reduceBEq, Int.reduceLT, Int.reduceLE, Int.reduceEq, ne_eq, not_false_eq_true, Nat.reduceMul, refE_val, refE_sz, outE_val, outE_sz, txE_val, txE_sz, ruleE_val, ruleE_sz, Int.cast_ofNat_Int, *]))
        all_goals exact hN _ _
      | true =>
        obtain ⟨hK, hS⟩ := hT.out rfl
        have hKH : Hid _ := hK
        clear hF hT hK
        have hw := wr_succ (k := 3 + j) (by omega)
        have hkb : W[3 + j] = bs wo[j] := by have := hWk j hlt; rw [List.getElem?_eq_getElem hltn] at this; injection this
        have hixj := ix_at W (3 + j) hltn
        rw [hkb] at hixj
        have hwj := hlo wo[j] (List.getElem_mem hlt)
        have hc := spec_l2Cut wo[j] 61 61 rfl (by omega)
        have hcl : (cutW 61 wo[j]).length = (cutL 61 wo[j]).length := List.length_map ..
        have hps := parOuts_step wo j hlt
        by_cases h2 : (cutL 61 wo[j]).length = 2
        · obtain ⟨wa, wb, hab⟩ : ∃ wa wb, cutL 61 wo[j] = [wa, wb] := by
            match hq : cutL 61 wo[j], h2 with
            | [wa, wb], _ => exact ⟨wa, wb, rfl⟩
          have hla := cutL_mem 61 wo[j] wa (by rw [hab]; simp)
          have hlb := cutL_mem 61 wo[j] wb (by rw [hab]; simp)
          have hCW : cutW 61 wo[j] = [bs wa, bs wb] := by unfold cutW; rw [hab]; rfl
          rw [hCW] at hc
          rw [hab] at hps
          dsimp only at hps
          have n1 : PCalls Tryz.prog 68 [.string (bs wa), .int .i64 7] (.tuple #[.int .i64 (numD 7 wa).1, .bool (numD 7 wa).2]) := spec_l2Number wa 7 (by omega) (by omega)
          have sw : PCalls Tryz.prog 80 [.string (bs wb), .int .u8 95, .int .u8 32] (.string (bs (swapL 95 32 wb))) := spec_l3Swap wb (by omega) 95 32
          have pr := spec_l2Parse (swapL 95 32 wb) (by unfold swapL; rw [List.length_map]; omega)
          have prk := parR_ok (t := swapL 95 32 wb)
          generalize parR (swapL 95 32 wb) = Q at pr hps prk
          generalize swapL 95 32 wb = ub at sw pr
          generalize numD 7 wa = A at n1 hps
          obtain ⟨x, g1⟩ := A
          obtain ⟨⟨ks, nd, af⟩, g2⟩ := Q
          simp only [ruleE_val] at pr
          dsimp only at n1 hps prk pr
          have q2 : (((2 : Nat) : Int) == 2) = true := rfl
          have iy0 : ∀ H : AH, idxV Tryz.prog H 22 (islE strE [bs wa, bs wb]) (.int .i64 0) = some (ip [.string (bs wa), .string (bs wb)]) := fun H => idxV_isl (P := Tryz.prog) (H := H) (n := 2) (k := 0) (kd := .i64) (cs := strE.flat [bs wa, bs wb]) elZ22 (by omega)
          have iy1 : ∀ H : AH, idxV Tryz.prog H 22 (islE strE [bs wa, bs wb]) (.int .i64 1) = some (ip [.string (bs wb)]) := fun H => idxV_isl (P := Tryz.prog) (H := H) (n := 2) (k := 1) (kd := .i64) (cs := strE.flat [bs wa, bs wb]) elZ22 (by omega)
          obtain ⟨ad3, n3, v3, M3, hap, hO3, hml, hfr⟩ := (hO.out.grow [⟨115, 0, [islE intE ks, .int .i64 nd, .int .i64 af], 0, true⟩]).app (P := Tryz.prog) (B := 0) [⟨45, 0, [.int .i64 0, .int .i64 0, .slice none 0 0, .slice none 0 0], 0, true⟩, ⟨45, 0, [.int .i64 2, .int .i64 m, .slice (some ⟨2, 0, none⟩) rs.length v1, .slice ad2 n2 v2], 0, true⟩] rfl (M2.length + 1 + 1 + 1) (by simp; omega) elZ43 elZ43 zOk43 (Nat.zero_le _) (⟨x, ⟨ks, nd, af⟩⟩ : TOut) (by omega) (by omega)
          have hap2 : appendH Tryz.prog 0 (⟨45, 0, [.int .i64 0, .int .i64 0, .slice none 0 0, .slice none 0 0], 0, true⟩ :: ⟨45, 0, [.int .i64 2, .int .i64 m, .slice (some ⟨2, 0, none⟩) rs.length v1, .slice ad2 n2 v2], 0, true⟩ :: (M2 ++ [⟨115, 0, [islE intE ks, .int .i64 nd, .int .i64 af], 0, true⟩, ⟨120, 4, [.int .i64 x, islE intE ks, .int .i64 nd, .int .i64 af], 0, true⟩])) 43 43 (.slice ad2 n2 v2) (.slice (some ⟨M2.length + 1 + 1 + 1, 0, none⟩) 1 0) = some (.slice ad3 n3 v3, ⟨45, 0, [.int .i64 0, .int .i64 0, .slice none 0 0, .slice none 0 0], 0, true⟩ :: ⟨45, 0, [.int .i64 2, .int .i64 m, .slice (some ⟨2, 0, none⟩) rs.length v1, .slice ad2 n2 v2], 0, true⟩ :: M3) := by
            simp only [List.append_assoc, List.cons_append, List.nil_append] at hap
            exact hap
          have hI3 : Hid (SlM 2 128 refE M3 (some ⟨2, 0, none⟩) rs.length v1 rs) := (hI.out.grow _).two (hO.out.grow _) (by decide) hfr
          have hO4 : Hid (SlM 2 120 outE M3 ad3 n3 v3 (pre ++ [(⟨x, ⟨ks, nd, af⟩⟩ : TOut)])) := hO3
          have hSF : Hid ((g1 && g2) = false → R = none) := fun h => by rw [hS, hps, h]; rfl
          have hST : Hid ((g1 && g2) = true → (∀ z ∈ pre ++ [(⟨x, ⟨ks, nd, af⟩⟩ : TOut)], z.rule.keys.length ≤ 1000000) ∧ R = ((parOuts (wo.drop (j + 1))).map ((pre ++ [(⟨x, ⟨ks, nd, af⟩⟩ : TOut)]) ++ ·)).bind fun outs => parEnd t 2 m rs outs) := fun h => by
            refine ⟨fun z hz => ?_, ?_⟩
            · rcases List.mem_append.1 hz with hz | hz
              · exact hKH.out z hz
              · rw [List.mem_singleton] at hz
                subst hz
                simp only [Bool.and_eq_true] at h
                have := (rf_bounds (prk h.2)).1.2
                dsimp only
                omega
            · rw [hS, hps, h, if_pos rfl, Option.map_map]
              congr 2
              funext l
              simp
          clear hap hO3 hfr hI hO hbi hbo hfail hKH hS hps prk h2 hab hcl hla hlb hCW hwj hWk hlo hml
          have h3 : g1 = false ∨ (g1 = true ∧ g2 = false) ∨ (g1 = true ∧ g2 = true) := by cases g1 <;> cases g2 <;> simp
          rcases h3 with rfl | ⟨rfl, rfl⟩ | ⟨rfl, rfl⟩
          all_goals
            repeat' (first | (refine ACalls.start ?_; first | (refine ACalls.ofJi (hc) rfl ?_) | (refine ACalls.ofJi (n1) rfl ?_) | (refine ACalls.ofJi (sw) rfl ?_) | (refine ACalls.ofJi (pr) rfl ?_)) | (refine KV.run _ ?_) | (refine KT.run _ ?_) | (refine AWp.seqH fun KC => ?_) | (refine AWp.block ?_) | (refine AWp.region ?_) | (refine AWp.skip ?_) | (refine aops_callH rfl fun kC => ?_) | (refine AWp.condB ?_) | (simp only [bse, wk, tys, storeH_ptr, Nat.reduceEqDiff, ↓reduceIte, reduceCtorEq, Nat.reduceAdd, Nat.reduceLeDiff, Int.reduceBEq, Int.reduceLT, Int.reduceLE, Int.reduceEq, ne_eq, not_false_eq_true, Nat.reduceMul, refE_val, refE_sz, outE_val, outE_sz, txE_val, txE_sz, ruleE_val, ruleE_sz, Int.cast_ofNat_Int, *]))
            exact hJ.out _ _ ⟨wo.length - (j + 1), by omega, j + 1, _, ad3, n3, v3, M3, _, by omega, rfl, rfl, rfl, rfl, by simp [hpl], hI3, hO4, hSF, hST⟩ (by repeat (first | exact Agree.refl _ _ | assumption | refine Agree.put ?_ rfl _))
        · have h2' : (((cutW 61 wo[j]).length : Int) == 2) = false := by rw [hcl]; simp; omega
          have hN : Hid (R = none) := by
            unfold Hid
            have e : parOuts (wo.drop j) = none := by
              rw [hps]
              split
              · rename_i a b he; rw [he] at h2; simp at h2
              · rfl
            rw [hS, e]; rfl
          have hf2 := hfail
          clear hfail hbi hbo hI hO hKH hS hps hcl h2 hWk hlo hwj
          repeat' (first | (refine ACalls.start ?_; first | (refine ACalls.ofJi (hc) rfl ?_)) | (refine KV.run _ ?_) | (refine KT.run _ ?_) | (refine AWp.seqH fun KC => ?_) | (refine AWp.block ?_) | (refine AWp.region ?_) | (refine AWp.ret ?_) | (refine AWp.skip ?_) | (refine aops_callH rfl fun kC => ?_) | (refine AWp.condB ?_) | (simp only [bse, wk, tys, storeH_ptr, Nat.reduceEqDiff, ↓reduceIte, reduceCtorEq, Nat.reduceAdd, Nat.reduceLeDiff, Int.reduceBEq, Int.reduceLT, Int.reduceLE, Int.reduceEq, ne_eq, not_false_eq_true, Nat.reduceMul, refE_val, refE_sz, outE_val, outE_sz, txE_val, txE_sz, ruleE_val, ruleE_sz, Int.cast_ofNat_Int, *]))
          have hN3 := fun b0 b1 => hf2 b0 b1 [] false (by unfold Hid; rw [hN.out]; rfl)
          simp only [List.append_nil] at hN3
          exact hN3 _ _
    · have hlt' : ¬ ((3 + j : Nat) : Int) < (W.length : Int) := by have := hWlH.out; omega
      have hje : j = wo.length := by omega
      have hlast : ∀ (b0 b1 : Blk) (b : Bool), Hid (R = if b then some ⟨2, m, rs, pre⟩ else none) → EOut (RT R) (.tuple #[.agg #[.int .i64 2, .int .i64 m, .slice (some ⟨2, 0, none⟩) rs.length v1, .slice ad2 n2 v2], .bool b]) (b0 :: b1 :: M2) := fun b0 b1 b h => by
        have := hfail b0 b1 [] b h
        rwa [List.append_nil] at this
      clear hfail
      cases ok with
      | false =>
        have hN : Hid (R = none) := hF.out rfl
        clear hbi hbo hI hO hF hT hje hj hWk hlo hpl
        repeat' (first | (refine AWp.mixedT (id := 31) (.cons 0 0 (.cons 1 0 (.cons 2 0 (.cons 3 1 (.cons 4 0 (.cons 5 0 (.cons 6 0 (.cons 8 0 (.cons 7 1 (.cons 9 0 (.cons 10 0 (.cons 11 0 (.cons 12 0 (.alt 13 1 (.alt 14 1 (.alt 15 1 (.cons 16 2 (.cons 17 0 .nil)) (.cons 16 2 (.cons 15 0 (.cons 17 0 .nil)))) (.cons 16 2 (.cons 14 0 (.cons 15 0 (.cons 17 0 .nil))))) (.cons 16 2 (.cons 13 0 (.cons 14 0 (.cons 15 0 (.cons 17 0 .nil))))))))))))))))))) (by kernel_rfl) (by kernel_rfl) ?_) | (refine mopsT_step0 rfl rfl fun KC => ?_) | (refine mopsT_step1 rfl fun KC => ?_) | (refine mopsT_step2 rfl fun KC => ?_) | (refine mopsT_alt1 rfl (fun KC => ?_) ?_) | (refine KT.run _ ?_) | (refine AWp.seqH fun KC => ?_) | (refine AWp.region ?_) | (refine AWp.ret ?_) | (refine AWp.exit ?_) | (refine AWp.condB ?_) | (simp only [bse, wk, tys, storeH_ptr, Nat.reduceEqDiff, ↓reduceIte, reduceCtorEq, Nat.reduceAdd, Nat.reduceLeDiff, Int.reduceBEq, Int.reduceLT, Int.reduceLE, Int.reduceEq, ne_eq, not_false_eq_true, Nat.reduceMul, refE_val, refE_sz, outE_val, outE_sz, txE_val, txE_sz, ruleE_val, ruleE_sz, Int.cast_ofNat_Int, *]))
        all_goals exact hlast _ _ false (by unfold Hid; rw [hN.out]; rfl)
      | true =>
        obtain ⟨hK, hS⟩ := hT.out rfl
        have hS2 : R = parEnd t 2 m rs pre := by rw [hS, hje, List.drop_length]; simp [parOuts]
        unfold parEnd at hS2
        have hrl := hrsl rs rfl
        have hfl := spec_l3Fault ⟨2, m, rs, pre⟩ hrl (by dsimp only; omega) hK
        have htx := spec_l3Text ⟨2, m, rs, pre⟩
        dsimp only at hfl htx
        have hbp : ∀ b0 : Blk, Bor (b0 :: ⟨45, 0, [.int .i64 2, .int .i64 m, .slice (some ⟨2, 0, none⟩) rs.length v1, .slice ad2 n2 v2], 0, true⟩ :: M2) (.pointer (some ⟨1, 0, some 0⟩)) (ip [.int .i64 2, .int .i64 m, islE refE rs, islE outE pre]) := fun b0 => Bor.ptrL (blk := ⟨45, 0, [.int .i64 2, .int .i64 m, .slice (some ⟨2, 0, none⟩) rs.length v1, .slice ad2 n2 v2], 0, true⟩) rfl rfl rfl ⟨_, .cons (.same _ (.flat _ rfl)) (.cons (.same _ (.flat _ rfl)) (.cons (hbi [b0, _] rfl) (.cons (hbo [b0, _] rfl) .nil))), rfl⟩ (by simp)
        have hpf : ∀ (B : Nat) (b0 : Blk), ACalls Tryz.prog B 81 [.pointer (some ⟨1, 0, some 0⟩)] (b0 :: ⟨45, 0, [.int .i64 2, .int .i64 m, .slice (some ⟨2, 0, none⟩) rs.length v1, .slice ad2 n2 v2], 0, true⟩ :: M2) fun d H2 => d = .int .i64 (txFault ⟨2, m, rs, pre⟩) ∧ (b0 :: ⟨45, 0, [.int .i64 2, .int .i64 m, .slice (some ⟨2, 0, none⟩) rs.length v1, .slice ad2 n2 v2], 0, true⟩ :: M2) = H2 := fun B b0 => ACalls.ofP hfl (.cons (hbp b0) .nil) rfl ⟨rfl, rfl⟩
        clear hbi hbo hI hO hF hT hje hj hWk hlo hpl hS hK hfl hrl
        by_cases hf : txFault ⟨2, m, rs, pre⟩ = 0
        · have htx := htx hf
          have hpt : ∀ (B : Nat) (b0 : Blk), ACalls Tryz.prog B 82 [.pointer (some ⟨1, 0, some 0⟩)] (b0 :: ⟨45, 0, [.int .i64 2, .int .i64 m, .slice (some ⟨2, 0, none⟩) rs.length v1, .slice ad2 n2 v2], 0, true⟩ :: M2) fun d H2 => d = .string (bs (txT ⟨2, m, rs, pre⟩)) ∧ (b0 :: ⟨45, 0, [.int .i64 2, .int .i64 m, .slice (some ⟨2, 0, none⟩) rs.length v1, .slice ad2 n2 v2], 0, true⟩ :: M2) = H2 := fun B b0 => ACalls.ofP htx (.cons (hbp b0) .nil) rfl ⟨rfl, rfl⟩
          rw [hf] at hpf
          have hS3 : R = if (txT ⟨2, m, rs, pre⟩ == t) then some ⟨2, m, rs, pre⟩ else none := by rw [hS2, hf]; simp
          have hct : (bs (txT ⟨2, m, rs, pre⟩) == bs t) = (txT ⟨2, m, rs, pre⟩ == t) := bs_beq _ _
          generalize txT ⟨2, m, rs, pre⟩ = T at hpt hS3 hct
          obtain ⟨tb, htb⟩ : ∃ tb, tb = (T == t) := ⟨_, rfl⟩
          rw [← htb] at hS3 hct
          clear htx hf hS2 htb hbp
          have hS4 : Hid _ := hS3
          clear hS3
          cases tb
          all_goals
            repeat' (first | (refine AWp.mixedT (id := 31) (.cons 0 0 (.cons 1 0 (.cons 2 0 (.cons 3 1 (.cons 4 0 (.cons 5 0 (.cons 6 0 (.cons 8 0 (.cons 7 1 (.cons 9 0 (.cons 10 0 (.cons 11 0 (.cons 12 0 (.alt 13 1 (.alt 14 1 (.alt 15 1 (.cons 16 2 (.cons 17 0 .nil)) (.cons 16 2 (.cons 15 0 (.cons 17 0 .nil)))) (.cons 16 2 (.cons 14 0 (.cons 15 0 (.cons 17 0 .nil))))) (.cons 16 2 (.cons 13 0 (.cons 14 0 (.cons 15 0 (.cons 17 0 .nil))))))))))))))))))) (by kernel_rfl) (by kernel_rfl) ?_) | (refine mopsT_step0 rfl rfl fun KC => ?_) | (refine mopsT_step1 rfl fun KC => ?_) | (refine mopsT_step2 rfl fun KC => ?_) | (refine mopsT_alt1 rfl (fun KC => ?_) ?_) | (refine ACalls.start ?_; first | (refine ACalls.get (hpf _ _) (by first | exact Nat.le_refl _ | exact Nat.zero_le _ | (simp only [List.length_append, List.length_cons, List.length_nil]; omega) | (simp only [List.length_set]; omega) | omega) (by first | exact Nat.le_refl _ | exact Nat.zero_le _ | (simp only [List.length_append, List.length_cons, List.length_nil]; omega) | (simp only [List.length_set]; omega) | omega) ?_; rintro _ _ ⟨rfl, rfl⟩) | (refine ACalls.get (hpt _ _) (by first | exact Nat.le_refl _ | exact Nat.zero_le _ | (simp only [List.length_append, List.length_cons, List.length_nil]; omega) | (simp only [List.length_set]; omega) | omega) (by first | exact Nat.le_refl _ | exact Nat.zero_le _ | (simp only [List.length_append, List.length_cons, List.length_nil]; omega) | (simp only [List.length_set]; omega) | omega) ?_; rintro _ _ ⟨rfl, rfl⟩)) | (refine KV.run _ ?_) | (refine KT.run _ ?_) | (refine AWp.seqH fun KC => ?_) | (refine AWp.region ?_) | (refine AWp.ret ?_) | (refine AWp.exit ?_) | (refine aops_callH rfl fun kC => ?_) | (refine AWp.condB ?_) | (simp only [bse, wk, tys, storeH_ptr, Nat.reduceEqDiff, ↓reduceIte, reduceCtorEq, Nat.reduceAdd, Nat.reduceLeDiff, Int.reduceBEq, Int.reduceLT, Int.reduceLE, Int.reduceEq, ne_eq, not_false_eq_true, Nat.reduceMul, refE_val, refE_sz, outE_val, outE_sz, txE_val, txE_sz, ruleE_val, ruleE_sz, Int.cast_ofNat_Int, *]))
            all_goals exact hlast _ _ _ hS4
        · have hS3 : Hid (R = if false then some ⟨2, m, rs, pre⟩ else none) := by unfold Hid; rw [hS2, if_neg fun h => hf h.1]; rfl
          have hf' : (txFault ⟨2, m, rs, pre⟩ == 0) = false := by simpa using hf
          generalize txFault ⟨2, m, rs, pre⟩ = F at hpf hf'
          clear htx hf hS2 hbp
          repeat' (first | (refine AWp.mixedT (id := 31) (.cons 0 0 (.cons 1 0 (.cons 2 0 (.cons 3 1 (.cons 4 0 (.cons 5 0 (.cons 6 0 (.cons 8 0 (.cons 7 1 (.cons 9 0 (.cons 10 0 (.cons 11 0 (.cons 12 0 (.alt 13 1 (.alt 14 1 (.alt 15 1 (.cons 16 2 (.cons 17 0 .nil)) (.cons 16 2 (.cons 15 0 (.cons 17 0 .nil)))) (.cons 16 2 (.cons 14 0 (.cons 15 0 (.cons 17 0 .nil))))) (.cons 16 2 (.cons 13 0 (.cons 14 0 (.cons 15 0 (.cons 17 0 .nil))))))))))))))))))) (by kernel_rfl) (by kernel_rfl) ?_) | (refine mopsT_step0 rfl rfl fun KC => ?_) | (refine mopsT_step1 rfl fun KC => ?_) | (refine mopsT_step2 rfl fun KC => ?_) | (refine mopsT_alt1 rfl (fun KC => ?_) ?_) | (refine ACalls.start ?_; first | (refine ACalls.get (hpf _ _) (by first | exact Nat.le_refl _ | exact Nat.zero_le _ | (simp only [List.length_append, List.length_cons, List.length_nil]; omega) | (simp only [List.length_set]; omega) | omega) (by first | exact Nat.le_refl _ | exact Nat.zero_le _ | (simp only [List.length_append, List.length_cons, List.length_nil]; omega) | (simp only [List.length_set]; omega) | omega) ?_; rintro _ _ ⟨rfl, rfl⟩)) | (refine KV.run _ ?_) | (refine KT.run _ ?_) | (refine AWp.seqH fun KC => ?_) | (refine AWp.region ?_) | (refine AWp.ret ?_) | (refine AWp.exit ?_) | (refine aops_callH rfl fun kC => ?_) | (refine AWp.condB ?_) | (simp only [bse, wk, tys, storeH_ptr, Nat.reduceEqDiff, ↓reduceIte, reduceCtorEq, Nat.reduceAdd, Nat.reduceLeDiff, Int.reduceBEq, Int.reduceLT, Int.reduceLE, Int.reduceEq, ne_eq, not_false_eq_true, Nat.reduceMul, refE_val, refE_sz, outE_val, outE_sz, txE_val, txE_sz, ruleE_val, ruleE_sz, Int.cast_ofNat_Int, *]))
          all_goals exact hlast _ _ _ hS3
end Go.BM
/- A transaction read out of a text: the reference, whole. -/
set_option linter.unusedVariables false
set_option linter.unusedSimpArgs false
set_option maxRecDepth 100000
set_option maxHeartbeats 4000000
namespace Go.BM
open Go.Proofs Go.RowKit
attribute [local irreducible] ACalls AWp aops qops optK optP cK gateA condK mops qcallK PCalls loadV fldV idxV lenV slV storeH binS
theorem spec_l3Parse (t : List UInt8) (ht : t.length ≤ 300) : ECalls Tryz.prog 55 [.string (bs t)] (RT (parT t)) := by
  obtain ⟨w0, ws, hw⟩ : ∃ w0 ws, cutL 32 t = w0 :: ws := by
    cases h : cutL 32 t with
    | nil => exact absurd h (cutL_ne 32 t)
    | cons a l => exact ⟨a, l, rfl⟩
  unfold parT
  rw [hw]
  dsimp only
  by_cases h0 : w0 = [112, 97, 121]
  · rw [if_pos h0]
    match ws, hw with
    | [], hw => exact l3ParseF2 t w0 [] hw h0 (by simp) ht
    | [wi], hw => exact l3ParseF2 t w0 [wi] hw h0 (by simp) ht
    | wi :: w :: wo, hw => exact l3Parse0 t w0 wi (w :: wo) hw h0 (by simp) ht _ rfl
  rw [if_neg h0]
  by_cases h1 : w0 = [106, 111, 105, 110] ∨ w0 = [108, 101, 97, 118, 101]
  · rw [if_pos h1]
    match ws, hw with
    | [], hw => exact l3ParseF3 t w0 hw h1 ht
    | wm :: ws', hw =>
      dsimp only
      cases hm : (numD 3 wm).2 with
      | false => exact l3ParseF4 t w0 wm ws' hw h1 (.inl hm) ht
      | true =>
        rw [if_pos rfl]
        match ws', hw with
        | [], hw => exact l3ParseF4 t w0 wm [] hw h1 (.inr ⟨hm, by simp⟩) ht
        | [wi], hw => exact l3ParseF4 t w0 wm [wi] hw h1 (.inr ⟨hm, by simp⟩) ht
        | wi :: w :: wo, hw =>
          by_cases h2 : w0 = [106, 111, 105, 110]
          · rw [if_pos h2]
            exact l3Parse1 t w0 wm wi (w :: wo) hw h2 hm (by simp) ht _ rfl
          · rw [if_neg h2]
            exact l3Parse2 t w0 wm wi (w :: wo) hw (h1.resolve_left h2) hm (by simp) ht _ rfl
  · rw [if_neg h1]
    exact l3ParseF1 t w0 ws hw h0 (fun h => h1 (.inl h)) (fun h => h1 (.inr h)) ht
def parRT (t : List UInt8) : TTxResult := match parT t with | some x => ⟨0, x⟩ | none => ⟨5, tx0⟩
theorem spec_ParseTx (t : List UInt8) (ht : t.length ≤ 300) : PCalls Tryz.prog 34 [.string (bs t)] (txResultE.val (parRT t)) := by
  have hp := spec_l3Parse t ht
  unfold parRT
  generalize parT t = o at hp ⊢
  refine PCalls.of ?_; refine ACalls.enter (n := 15) (rs := [.cell 2 47]) Tryz.func34 rfl rfl rfl (by kernel_rfl) (by kernel_rfl) (by kernel_rfl) (Nat.le_of_ble_eq_true rfl) ?_
  repeat' (first | (refine KT.run _ ?_) | (refine AWp.seqH fun KC => ?_) | (refine AWp.region ?_) | (refine aops_callH rfl fun kC => ?_) | (simp only [bse, wk, tys, storeH_ptr, Nat.reduceEqDiff, ↓reduceIte, reduceCtorEq, Nat.reduceAdd, Nat.reduceLeDiff, Int.reduceBEq, Int.reduceLT, Int.reduceLE, Int.reduceEq, ne_eq, not_false_eq_true, Nat.reduceMul, txE_val, txE_sz, txResultE_val, txResultE_sz, *]))
  refine ACalls.get (hp.use (by repeat' (first | exact Im.nilL | refine Im.consL ?_ ?_ | refine Im.appL ?_ ?_ | exact Im.flat _ rfl | exact islE_im _ _ | exact Enc.val_im _ _ | assumption | refine Im.aggL ?_ | refine Im.funcL ?_ | refine Im.funcA ?_ | refine Im.isl ?_ | refine Im.ip ?_))) (by first | exact Nat.le_refl _ | exact Nat.zero_le _ | (simp only [List.length_append, List.length_cons, List.length_nil]; omega) | (simp only [List.length_set]; omega) | omega) (by first | exact Nat.le_refl _ | exact Nat.zero_le _ | (simp only [List.length_append, List.length_cons, List.length_nil]; omega) | (simp only [List.length_set]; omega) | omega) ?_
  rintro _ _ ⟨⟨⟨k, m, ins, outs⟩, ok, rfl, ho⟩, -, rfl⟩
  dsimp only
  cases ok with
  | true =>
    simp only [if_true] at ho
    subst ho
    repeat' (first | (refine KV.run _ ?_) | (refine KT.run _ ?_) | (refine AWp.seqH fun KC => ?_) | (refine AWp.region ?_) | (refine AWp.ret ?_) | (refine AWp.skip ?_) | (refine AWp.condB ?_) | (simp only [bse, wk, tys, storeH_ptr, Nat.reduceEqDiff, ↓reduceIte, reduceCtorEq, Nat.reduceAdd, Nat.reduceLeDiff, Int.reduceBEq, Int.reduceLT, Int.reduceLE, Int.reduceEq, ne_eq, not_false_eq_true, Nat.reduceMul, txE_val, txE_sz, txResultE_val, txResultE_sz, *]))
    all_goals exact .same _ (Enc.val_im txResultE ⟨0, ⟨k, m, ins, outs⟩⟩)
  | false =>
    simp only [Bool.false_eq_true, if_false] at ho
    subst ho
    repeat' (first | (refine KV.run _ ?_) | (refine KT.run _ ?_) | (refine AWp.seqH fun KC => ?_) | (refine AWp.region ?_) | (refine AWp.ret ?_) | (refine AWp.condB ?_) | (simp only [bse, wk, tys, storeH_ptr, Nat.reduceEqDiff, ↓reduceIte, reduceCtorEq, Nat.reduceAdd, Nat.reduceLeDiff, Int.reduceBEq, Int.reduceLT, Int.reduceLE, Int.reduceEq, ne_eq, not_false_eq_true, Nat.reduceMul, txE_val, txE_sz, txResultE_val, txResultE_sz, *]))
    all_goals exact Bor.aggL (.cons (.same _ (.flat _ rfl)) (.cons (.same _ (.flat _ rfl)) (.cons (.same _ (.flat _ rfl)) (.cons .nil (.cons .nil .nil)))))
end Go.BM
/- A block read out of a text: both sides read the same. -/
set_option linter.unusedVariables false
set_option linter.unusedSimpArgs false
set_option maxRecDepth 100000
set_option maxHeartbeats 4000000
namespace Go.BM
open Go.Proofs Go.RowKit
attribute [local irreducible] ACalls AWp aops qops optK optP cK gateA condK mops qcallK PCalls loadV fldV idxV lenV slV storeH binS
theorem dd1 {u : Nat} (h : u < 10) : Lib.decDigits u = [UInt8.ofNat (48 + u)] := by rw [Lib.decDigits, dif_pos h]
theorem ofNat_nat {n : Nat} (h : n < 256) : (UInt8.ofNat n).toNat = n := by
  rw [UInt8.toNat_ofNat']
  exact Nat.mod_eq_of_lt h
theorem dig_of {d : Nat} (h : d < 10) : digB (UInt8.ofNat (48 + d)) = true ∧ (UInt8.ofNat (48 + d)).toNat - 48 = d := by
  have e := ofNat_nat (n := 48 + d) (by omega)
  refine ⟨?_, by omega⟩
  unfold digB
  rw [e]
  simp
  omega
theorem not0 {d : Nat} (h : 1 ≤ d) (h2 : d < 10) : UInt8.ofNat (48 + d) ≠ 48 := fun e => by
  have h3 := ofNat_nat (n := 48 + d) (by omega)
  rw [e] at h3
  have : (48 : UInt8).toNat = 48 := rfl
  omega
end Go.BM
/- Texts of transactions: both sides read back what was told. -/
set_option linter.unusedVariables false
set_option linter.unusedSimpArgs false
set_option maxRecDepth 100000
set_option maxHeartbeats 4000000
namespace Go.BM
open Go.Proofs Go.RowKit
attribute [local irreducible] ACalls AWp aops qops optK optP cK gateA condK mops qcallK PCalls loadV fldV idxV lenV slV storeH binS
open Go.Proofs
theorem dec_snoc {u : Nat} (h : ¬ u < 10) : Lib.decDigits u = Lib.decDigits (u / 10) ++ [UInt8.ofNat (48 + u % 10)] := by rw [Lib.decDigits, dif_neg h]
theorem dec_head (u : Nat) : ∃ d r, d < 10 ∧ Lib.decDigits u = UInt8.ofNat (48 + d) :: r ∧ (¬ u < 10 → 1 ≤ d) := by
  induction u using Nat.strongRecOn with
  | _ u ih =>
    by_cases h : u < 10
    · exact ⟨u, [], h, dd1 h, fun h2 => absurd h h2⟩
    · obtain ⟨d, r, h1, h2, h3⟩ := ih (u / 10) (by omega)
      refine ⟨d, r ++ [UInt8.ofNat (48 + u % 10)], h1, by rw [dec_snoc h, h2]; rfl, fun _ => ?_⟩
      by_cases h4 : u / 10 < 10
      · rw [dd1 h4] at h2
        injection h2 with h2 _
        have e1 := ofNat_nat (n := 48 + u / 10) (by omega)
        have e2 := ofNat_nat (n := 48 + d) (by omega)
        rw [h2] at e1
        omega
      · exact h3 h4
theorem pu_dec (M : Nat) (hM : 100000000 ≤ M) (u : Nat) : u ≤ 99999999 → ∀ r, Lib.parseUintM M 0 (Lib.decDigits u ++ r) = Lib.parseUintM M u r := by
  induction u using Nat.strongRecOn with
  | _ u ih =>
    intro hu r
    have step : ∀ (acc d : Nat), d < 10 → acc ≤ 9999999 → Lib.parseUintM M acc (UInt8.ofNat (48 + d) :: r) = Lib.parseUintM M (acc * 10 + d) r := fun acc d hd ha => by
      have e := ofNat_nat (n := 48 + d) (by omega)
      rw [Lib.parseUintM, e, if_pos (by omega), if_neg (by omega), if_neg (by omega), show 48 + d - 48 = d by omega]
    by_cases h : u < 10
    · rw [dd1 h, List.cons_append, List.nil_append, step 0 u h (by omega)]
      congr 1
      omega
    · rw [dec_snoc h, List.append_assoc, ih (u / 10) (by omega) (by omega), List.cons_append, List.nil_append, step (u / 10) (u % 10) (by omega) (by omega)]
      congr 1
      omega
theorem parse_dec7 {u : Nat} (h : u ≤ 99999999) : Lib.parseIntB 64 (Lib.decDigits u) = .ok (u : Int) := by
  have hp := pu_dec (2 ^ 64 - 1) (by decide) u h []
  rw [List.append_nil] at hp
  have h0 : Lib.parseUintM (2 ^ 64 - 1) u [] = .ok u := by simp [Lib.parseUintM]
  rw [h0] at hp
  obtain ⟨d, r, h1, h2, _⟩ := dec_head u
  rw [h2] at hp ⊢
  have e := ofNat_nat (n := 48 + d) (by omega)
  unfold Lib.parseIntB
  simp only [e]
  rw [if_neg (by omega)]
  unfold Lib.parseUintB
  rw [if_neg (by simp), hp]
  dsimp only
  rw [if_neg (by simp; omega), if_neg (by omega), if_neg (by omega)]
theorem numL_dec7 {u : Nat} (h : u ≤ 9999999) : numL (Lib.decDigits u) = (u : Int) := by
  unfold numL numF
  rw [bs_list, parse_dec7 (by omega)]
  dsimp only
  rw [if_pos]
  refine ⟨?_, ?_⟩
  · rw [bs_size]; have := dec_len7 (u := u) h; omega
  · rw [itoa_nat (by omega)]; simp
theorem numL_itoa {x : Int} (h0 : 0 ≤ x) (h1 : x ≤ 9999999) : numL (Lib.itoa x) = x := by
  rw [itoa_nat h0, numL_dec7 (by omega), Int.toNat_of_nonneg h0]
theorem valD_snoc (l : List UInt8) (b : UInt8) : valD (l ++ [b]) = valD l * 10 + (b.toNat - 48) := by
  unfold valD
  rw [List.foldl_append]
  rfl
theorem valD_dec (u : Nat) : valD (Lib.decDigits u) = u ∧ (Lib.decDigits u).all digB = true := by
  induction u using Nat.strongRecOn with
  | _ u ih =>
    by_cases h : u < 10
    · obtain ⟨h1, h2⟩ := dig_of h
      rw [dd1 h]
      generalize UInt8.ofNat (48 + u) = b at h1 h2 ⊢
      exact ⟨by simp [valD, h2], by simp [h1]⟩
    · obtain ⟨g1, g2⟩ := ih (u / 10) (by omega)
      obtain ⟨h1, h2⟩ := dig_of (d := u % 10) (by omega)
      rw [dec_snoc h]
      generalize UInt8.ofNat (48 + u % 10) = b at h1 h2 ⊢
      rw [valD_snoc, g1, h2, List.all_append, g2]
      exact ⟨by omega, by simp [h1]⟩
theorem dec_lenN (n u : Nat) (hn : 1 ≤ n) : u < 10 ^ n → (Lib.decDigits u).length ≤ n := by
  induction n generalizing u with
  | zero => omega
  | succ n ih =>
    intro hu
    by_cases h : u < 10
    · rw [dd1 h]; simp
    · rw [dec_snoc h, List.length_append]
      by_cases h1 : 1 ≤ n
      · have := ih (u / 10) h1 (by rw [Nat.pow_succ] at hu; omega)
        simp
        omega
      · have : n = 0 := by omega
        subst this
        simp at hu
        omega
theorem numD_decN {n u : Nat} (hn : 1 ≤ n) (hu : u < 10 ^ n) : numD n (Lib.decDigits u) = ((u : Int), true) := by
  obtain ⟨h1, h2⟩ := valD_dec u
  have hl := dec_lenN n u hn hu
  obtain ⟨d, r, g1, g2, g3⟩ := dec_head u
  unfold numD
  rw [if_neg, if_pos h2, h1]
  intro hc
  simp only [Bool.or_eq_true, Bool.and_eq_true, decide_eq_true_eq] at hc
  rcases hc with (hc | hc) | ⟨hc, hd⟩
  · rw [g2] at hc; simp at hc; omega
  · omega
  · by_cases h : u < 10
    · rw [dd1 h] at hc; simp at hc
    · rw [g2] at hd
      exact not0 (g3 h) g1 hd
theorem numD_itoa {n : Nat} {x : Int} (hn : 1 ≤ n) (h0 : 0 ≤ x) (h1 : x.toNat < 10 ^ n) : numD n (Lib.itoa x) = (x, true) := by
  rw [itoa_nat h0, numD_decN hn h1, Int.toNat_of_nonneg h0]
/-! ### words -/
theorem cutL_join (c : UInt8) : ∀ (w : List UInt8) (ws : List (List UInt8)), (∀ v ∈ w :: ws, ∀ b ∈ v, b ≠ c) → cutL c (Lib.join (w :: ws) [c]) = w :: ws
  | w, [], h => by rw [Lib.join_one]; exact cutL_one c w (h w (by simp))
  | w, v :: ws, h => by
    have ih := cutL_join c v ws fun u hu => h u (by simp at hu ⊢; exact .inr hu)
    have e : Lib.join (w :: v :: ws) [c] = w ++ c :: Lib.join (v :: ws) [c] := by
      rw [Lib.join_cons, Lib.join_cons]
      unfold Lib.joinTail
      simp
    rw [e, cutL_app c w _ (h w (by simp)), ih]
theorem cutAt_app (c : UInt8) : ∀ (a l : List UInt8), (∀ x ∈ a, x ≠ c) → cutAt c (a ++ c :: l) = (a, l, true)
  | [], l, _ => by simp [cutAt]
  | x :: a, l, h => by
    have ih := cutAt_app c a l fun y hy => h y (by simp [hy])
    rw [List.cons_append, cutAt, if_neg (h x (by simp)), ih]
/-- No byte of a number is another one than a digit. -/
theorem itoa_no {x : Int} (h0 : 0 ≤ x) (c : UInt8) (hc : c.toNat < 48 ∨ 57 < c.toNat) : ∀ b ∈ Lib.itoa x, b ≠ c := fun b hb => by
  rw [itoa_nat h0] at hb
  have := digit_ne _ b hb
  intro e
  subst e
  omega
theorem joinTail_no (c s : UInt8) (hs : s ≠ c) : ∀ ws : List (List UInt8), (∀ w ∈ ws, ∀ b ∈ w, b ≠ c) → ∀ b ∈ Lib.joinTail [s] ws, b ≠ c
  | [], _, b, hb => by simp [Lib.joinTail] at hb
  | w :: ws, h, b, hb => by
    have ih := joinTail_no c s hs ws fun v hv => h v (by simp [hv])
    unfold Lib.joinTail at ih hb
    simp only [List.map_cons, List.flatten_cons, List.mem_append, List.mem_cons, List.not_mem_nil, or_false] at hb
    rcases hb with (rfl | hb) | hb
    · exact hs
    · exact h w (by simp) b hb
    · exact ih b hb
theorem join_no (c s : UInt8) (hs : s ≠ c) (ws : List (List UInt8)) (h : ∀ w ∈ ws, ∀ b ∈ w, b ≠ c) : ∀ b ∈ Lib.join ws [s], b ≠ c := by
  cases ws with
  | nil => intro b hb; simp [Lib.join_nil] at hb
  | cons w ws =>
    intro b hb
    rw [Lib.join_cons, List.mem_append] at hb
    rcases hb with hb | hb
    · exact h w (by simp) b hb
    · exact joinTail_no c s hs ws (fun v hv => h v (by simp [hv])) b hb
theorem app_no {c : UInt8} {a b : List UInt8} (h1 : ∀ x ∈ a, x ≠ c) (h2 : ∀ x ∈ b, x ≠ c) : ∀ x ∈ a ++ b, x ≠ c := fun x hx => by
  rcases List.mem_append.1 hx with hx | hx
  · exact h1 x hx
  · exact h2 x hx
theorem joinI_no (xs : List Int) (h : ∀ x ∈ xs, 0 ≤ x) (c : UInt8) (hc : c.toNat < 48 ∨ 57 < c.toNat) (h44 : (44 : UInt8) ≠ c) : ∀ b ∈ joinI 44 xs, b ≠ c :=
  join_no c 44 h44 _ fun w hw => by
    obtain ⟨x, hx, rfl⟩ := List.mem_map.1 hw
    exact itoa_no (h x hx) c hc
theorem map_itoa_numL (xs : List Int) (h : ∀ x ∈ xs, 0 ≤ x ∧ x ≤ 9999999) : (xs.map Lib.itoa).map numL = xs := by
  rw [List.map_map]
  conv => rhs; rw [← List.map_id xs]
  exact List.map_congr_left fun x hx => numL_itoa (h x hx).1 (h x hx).2
theorem cut_joinI (xs : List Int) (hne : 1 ≤ xs.length) (h : ∀ x ∈ xs, 0 ≤ x) : cutL 44 (joinI 44 xs) = xs.map Lib.itoa := by
  cases xs with
  | nil => simp at hne
  | cons x xs =>
    unfold joinI
    rw [List.map_cons]
    refine cutL_join 44 _ _ fun w hw => ?_
    rw [← List.map_cons] at hw
    obtain ⟨y, hy, rfl⟩ := List.mem_map.1 hw
    exact itoa_no (h y hy) 44 (by decide)
/-- The words of a rule's text. -/
theorem cut_rule (c : UInt8) (hc : c = 32 ∨ c = 95) (r : TRule) (hr : ruleFault r.keys r.need r.after = 0) : cutL c (ruleT c r) = if r.after = 0 then [Lib.itoa r.need, [111, 102], joinI 44 r.keys] else [Lib.itoa r.need, [111, 102], joinI 44 r.keys, [97, 102, 116, 101, 114], Lib.itoa r.after] := by
  obtain ⟨h1, h2, h3, h4⟩ := rf_bounds hr
  have hcn : c.toNat < 48 ∨ 57 < c.toNat := by rcases hc with rfl | rfl <;> decide
  have h44 : (44 : UInt8) ≠ c := by rcases hc with rfl | rfl <;> decide
  have n1 := itoa_no (x := r.need) (by omega) c hcn
  have n2 : ∀ b ∈ ([111, 102] : List UInt8), b ≠ c := by rcases hc with rfl | rfl <;> decide
  have n3 := joinI_no r.keys (fun x hx => by have := h4 x hx; omega) c hcn h44
  have n4 : ∀ b ∈ ([97, 102, 116, 101, 114] : List UInt8), b ≠ c := by rcases hc with rfl | rfl <;> decide
  have n5 := itoa_no (x := r.after) (by omega) c hcn
  unfold ruleT
  by_cases h0 : r.after = 0
  · rw [if_pos h0, if_pos h0]
    have e : (Lib.itoa r.need ++ [c] ++ [111, 102] ++ [c] ++ joinI 44 r.keys ++ [] : List UInt8) = Lib.itoa r.need ++ c :: ([111, 102] ++ c :: joinI 44 r.keys) := by simp
    rw [e, cutL_app c _ _ n1, cutL_app c _ _ n2, cutL_one c _ n3]
  · rw [if_neg h0, if_neg h0]
    have e : (Lib.itoa r.need ++ [c] ++ [111, 102] ++ [c] ++ joinI 44 r.keys ++ ([c] ++ [97, 102, 116, 101, 114] ++ [c] ++ Lib.itoa r.after) : List UInt8) = Lib.itoa r.need ++ c :: ([111, 102] ++ c :: (joinI 44 r.keys ++ c :: ([97, 102, 116, 101, 114] ++ c :: Lib.itoa r.after))) := by simp
    rw [e, cutL_app c _ _ n1, cutL_app c _ _ n2, cutL_app c _ _ n3, cutL_app c _ _ n4, cutL_one c _ n5]
/-- A right rule's text is read back: the program. -/
theorem readR_text (c : UInt8) (hc : c = 32 ∨ c = 95) (r : TRule) (hr : ruleFault r.keys r.need r.after = 0) : readR c (ruleT c r) = (r, true) := by
  obtain ⟨h1, h2, h3, h4⟩ := rf_bounds hr
  have hl := ruleT_len c hr
  have hk : (cutL 44 (joinI 44 r.keys)).map numL = r.keys := by
    rw [cut_joinI r.keys (by omega) fun x hx => by have := h4 x hx; omega]
    exact map_itoa_numL _ fun x hx => by have := h4 x hx; omega
  unfold readR
  rw [if_neg (by omega), cut_rule c hc r hr]
  by_cases h0 : r.after = 0
  · rw [if_pos h0]
    dsimp only
    rw [hk, numL_itoa (by omega) (by omega), show (⟨r.keys, r.need, 0⟩ : TRule) = r by rw [← h0]]
    unfold chkR
    rw [if_pos ⟨hr, rfl⟩]
  · rw [if_neg h0]
    dsimp only
    rw [hk, numL_itoa (by omega) (by omega), numL_itoa (by omega) (by omega)]
    unfold chkR
    rw [if_pos ⟨hr, rfl⟩]
theorem keysD_text (xs : List Int) (hne : 1 ≤ xs.length) (h : ∀ x ∈ xs, 1 ≤ x ∧ x ≤ 999) : keysD (joinI 44 xs) = xs ∧ keysOk (joinI 44 xs) = true := by
  have hn : ∀ x ∈ xs, numD 3 (Lib.itoa x) = (x, true) := fun x hx => by have := h x hx; exact numD_itoa (by omega) (by omega) (by omega)
  unfold keysD keysOk
  rw [cut_joinI xs hne fun x hx => by have := h x hx; omega]
  refine ⟨?_, ?_⟩
  · rw [List.map_map]
    conv => rhs; rw [← List.map_id xs]
    exact List.map_congr_left fun x hx => by
      show (numD 3 (Lib.itoa x)).1 = x
      rw [hn x hx]
  · rw [List.all_eq_true]
    intro w hw
    obtain ⟨x, hx, rfl⟩ := List.mem_map.1 hw
    rw [hn x hx]
/-- A right rule's text is read back: the reference. -/
theorem parR_text (r : TRule) (hr : ruleFault r.keys r.need r.after = 0) : parR (ruleT 32 r) = (r, true) := by
  obtain ⟨h1, h2, h3, h4⟩ := rf_bounds hr
  obtain ⟨k1, k2⟩ := keysD_text r.keys (by omega) h4
  have hn := numD_itoa (n := 1) (x := r.need) (by omega) (by omega) (by omega)
  unfold parR
  rw [cut_rule 32 (.inl rfl) r hr]
  by_cases h0 : r.after = 0
  · rw [if_pos h0]
    dsimp only
    rw [if_pos rfl, k1, k2, hn]
    dsimp only
    rw [h0] at hr
    rw [hr, show (⟨r.keys, r.need, 0⟩ : TRule) = r by rw [← h0]]
    rfl
  · have ha := numD_itoa (n := 3) (x := r.after) (by omega) (by omega) (by omega)
    rw [if_neg h0]
    dsimp only
    rw [if_pos rfl, k1, k2, hn, ha]
    dsimp only
    rw [hr, decide_eq_true (by omega)]
    rfl
theorem swap_back (r : TRule) (hr : ruleFault r.keys r.need r.after = 0) : swapL 95 32 (ruleT 95 r) = ruleT 32 r := by
  obtain ⟨h1, h2, h3, h4⟩ := rf_bounds hr
  have e1 : swapL 95 32 (Lib.itoa r.need) = Lib.itoa r.need := swap_id (itoa_no (by omega) 95 (by decide))
  have e2 : swapL 95 32 (Lib.itoa r.after) = Lib.itoa r.after := swap_id (itoa_no (by omega) 95 (by decide))
  have e3 : swapL 95 32 (joinI 44 r.keys) = joinI 44 r.keys := swap_id (joinI_no _ (fun x hx => by have := h4 x hx; omega) 95 (by decide) (by decide))
  have c1 : swapL 95 32 [95] = [32] := by decide
  have c2 : swapL 95 32 [111, 102] = [111, 102] := by decide
  have c3 : swapL 95 32 [97, 102, 116, 101, 114] = [97, 102, 116, 101, 114] := by decide
  unfold ruleT
  by_cases h0 : r.after = 0
  · rw [if_pos h0, if_pos h0]
    simp only [swap_app, e1, e3, c1, c2, List.append_nil]
  · rw [if_neg h0, if_neg h0]
    simp only [swap_app, e1, e2, e3, c1, c2, c3]
/-! ### transactions -/
theorem rd_ref (r : TRef) (h1 : 1 ≤ r.tx ∧ r.tx ≤ 60) (h2 : 0 ≤ r.at' ∧ r.at' ≤ 3) : rdRef (refT r) = r := by
  have e : refT r = Lib.itoa r.tx ++ 58 :: Lib.itoa r.at' := by unfold refT; simp
  unfold rdRef
  rw [e, cutAt_app 58 _ _ (itoa_no (by omega) 58 (by decide))]
  dsimp only
  rw [numL_itoa (by omega) (by omega), numL_itoa (by omega) (by omega)]
theorem rd_outs : ∀ outs : List TOut, (∀ x ∈ outs, (1 ≤ x.value ∧ x.value ≤ 1000000) ∧ ruleFault x.rule.keys x.rule.need x.rule.after = 0) → rdOuts (outs.map outT) = some outs
  | [], _ => rfl
  | x :: outs, h => by
    have ih := rd_outs outs fun y hy => h y (by simp [hy])
    obtain ⟨h1, h2⟩ := h x (by simp)
    have e : outT x = Lib.itoa x.value ++ 61 :: ruleT 95 x.rule := by unfold outT; simp
    rw [List.map_cons, rdOuts, e, cutAt_app 61 _ _ (itoa_no (by omega) 61 (by decide))]
    dsimp only
    rw [readR_text 95 (.inr rfl) x.rule h2, if_pos rfl, ih, numL_itoa (by omega) (by omega)]
    rfl
theorem ruleT_no (c : UInt8) (hc : c.toNat < 48 ∨ 57 < c.toNat) (hl : ∀ b ∈ ([95, 111, 102, 44, 97, 116, 101, 114] : List UInt8), b ≠ c) (r : TRule) (hr : ruleFault r.keys r.need r.after = 0) : ∀ b ∈ ruleT 95 r, b ≠ c := by
  obtain ⟨h1, h2, h3, h4⟩ := rf_bounds hr
  have n1 := itoa_no (x := r.need) (by omega) c hc
  have n2 : ∀ b ∈ ([111, 102] : List UInt8), b ≠ c := fun b hb => hl b (by simp at hb ⊢; rcases hb with rfl | rfl <;> simp)
  have n3 := joinI_no r.keys (fun x hx => by have := h4 x hx; omega) c hc (hl 44 (by simp))
  have n4 : ∀ b ∈ ([97, 102, 116, 101, 114] : List UInt8), b ≠ c := fun b hb => hl b (by simp at hb ⊢; rcases hb with rfl | rfl | rfl | rfl | rfl <;> simp)
  have n5 := itoa_no (x := r.after) (by omega) c hc
  have n6 : ∀ b ∈ ([95] : List UInt8), b ≠ c := fun b hb => hl b (by simp at hb ⊢; exact .inl hb)
  unfold ruleT
  refine app_no (app_no (app_no (app_no (app_no n1 n6) n2) n6) n3) ?_
  by_cases h0 : r.after = 0
  · rw [if_pos h0]; intro b hb; simp at hb
  · rw [if_neg h0]
    exact app_no (app_no (app_no n6 n4) n6) n5
theorem txW_no {t : TTx} (h : txFault t = 0) : ∀ w ∈ txW t, ∀ b ∈ w, b ≠ 32 := by
  obtain ⟨hk, hkm, hm, hi, ho, hI, hO⟩ := tx_bounds h
  have d32 : (32 : UInt8).toNat < 48 ∨ 57 < (32 : UInt8).toNat := by decide
  intro w hw
  unfold txW at hw
  simp only [List.mem_append, List.mem_cons, List.not_mem_nil, or_false, List.mem_map] at hw
  rcases hw with ((rfl | hw) | rfl) | ⟨x, hx, rfl⟩
  · unfold kindT
    split
    · decide
    · split <;> decide
  · split at hw
    · simp at hw
    · simp at hw
      subst hw
      exact itoa_no hm.1 32 d32
  · refine join_no 32 43 (by decide) _ fun v hv => ?_
    obtain ⟨r, hr, rfl⟩ := List.mem_map.1 hv
    have := hI r hr
    exact app_no (app_no (itoa_no (by omega) 32 d32) (by decide)) (itoa_no (by omega) 32 d32)
  · obtain ⟨h1, h2⟩ := hO x hx
    exact app_no (app_no (itoa_no (by omega) 32 d32) (by decide)) (ruleT_no 32 d32 (by decide) x.rule h2)
theorem cut_tx {t : TTx} (h : txFault t = 0) : cutL 32 (txT t) = txW t := by
  have hn := txW_no h
  unfold txT
  cases hq : txW t with
  | nil => unfold txW at hq; simp at hq
  | cons w ws => rw [hq] at hn; exact cutL_join 32 w ws hn
theorem cut_refs (ins : List TRef) (hne : 1 ≤ ins.length) (h : ∀ x ∈ ins, (1 ≤ x.tx ∧ x.tx ≤ 60) ∧ (0 ≤ x.at' ∧ x.at' ≤ 3)) : cutL 43 (Lib.join (ins.map refT) [43]) = ins.map refT := by
  cases ins with
  | nil => simp at hne
  | cons r ins =>
    rw [List.map_cons]
    refine cutL_join 43 _ _ fun w hw => ?_
    rw [← List.map_cons] at hw
    obtain ⟨y, hy, rfl⟩ := List.mem_map.1 hw
    have := h y hy
    exact app_no (app_no (itoa_no (by omega) 43 (by decide)) (by decide)) (itoa_no (by omega) 43 (by decide))
theorem kind_of {k : Int} (hk : 0 ≤ k ∧ k ≤ 2) : kindK (kindT k) = k := by
  have : k = 0 ∨ k = 1 ∨ k = 2 := by omega
  rcases this with rfl | rfl | rfl <;> decide
theorem chkT_text {x : TTx} (h : txFault x = 0) (hl : (txT x).length ≤ 300) : chkT (txT x) x = (x, true) := by
  unfold chkT
  rw [if_pos h, decide_eq_false (by omega)]
  simp
/-- A right transaction's text is read back: the program. -/
theorem readT_text (x : TTx) (h : txFault x = 0) (hl : (txT x).length ≤ 300) : readT (txT x) = (x, true) := by
  obtain ⟨hk, hkm, hm, hi, ho, hI, hO⟩ := tx_bounds h
  have hc := cut_tx h
  have hr : (cutL 43 (Lib.join (x.ins.map refT) [43])).map rdRef = x.ins := by
    rw [cut_refs x.ins hi.1 hI, List.map_map]
    conv => rhs; rw [← List.map_id x.ins]
    exact List.map_congr_left fun r hr => rd_ref r (hI r hr).1 (hI r hr).2
  have hou := rd_outs x.outs hO
  have hch := chkT_text h hl
  unfold readT
  rw [if_neg (by omega), hc]
  unfold txW
  by_cases h0 : x.kind = 0
  · have hm0 := hkm.1 h0
    rw [if_pos h0, h0, List.append_nil, List.append_assoc]
    simp only [List.cons_append, List.nil_append]
    rw [if_pos (by decide)]
    unfold rdBody
    dsimp only
    rw [if_neg (by rw [List.length_map]; omega), hr, hou]
    unfold rdFin
    dsimp only
    rw [show (⟨0, 0, x.ins, x.outs⟩ : TTx) = x by obtain ⟨a, b, c, d⟩ := x; dsimp only at h0 hm0; subst h0 hm0; rfl]
    exact hch
  · rw [if_neg h0]
    simp only [List.cons_append, List.nil_append]
    have hkk := kind_of hk
    rw [hkk, if_neg h0, if_neg (by omega)]
    unfold rdBody
    dsimp only
    rw [if_neg (by rw [List.length_map]; omega), hr, hou, numL_itoa hm.1 (by omega)]
    exact hch
theorem par_refs : ∀ ins : List TRef, (∀ x ∈ ins, (1 ≤ x.tx ∧ x.tx ≤ 60) ∧ (0 ≤ x.at' ∧ x.at' ≤ 3)) → insF (ins.map refT) = some ins
  | [], _ => rfl
  | r :: ins, h => by
    have ih := par_refs ins fun y hy => h y (by simp [hy])
    have h1 := h r (by simp)
    have e : refT r = Lib.itoa r.tx ++ 58 :: Lib.itoa r.at' := by unfold refT; simp
    rw [List.map_cons, insF, e, cutL_app 58 _ _ (itoa_no (by omega) 58 (by decide)), cutL_one 58 _ (itoa_no (by omega) 58 (by decide))]
    dsimp only
    rw [numD_itoa (n := 2) (by omega) (by omega) (by omega), numD_itoa (n := 1) (by omega) (by omega) (by omega), ih]
    rfl
theorem par_outs : ∀ outs : List TOut, (∀ x ∈ outs, (1 ≤ x.value ∧ x.value ≤ 1000000) ∧ ruleFault x.rule.keys x.rule.need x.rule.after = 0) → parOuts (outs.map outT) = some outs
  | [], _ => rfl
  | x :: outs, h => by
    have ih := par_outs outs fun y hy => h y (by simp [hy])
    obtain ⟨h1, h2⟩ := h x (by simp)
    have e : outT x = Lib.itoa x.value ++ 61 :: ruleT 95 x.rule := by unfold outT; simp
    rw [List.map_cons, parOuts, e, cutL_app 61 _ _ (itoa_no (by omega) 61 (by decide)), cutL_one 61 _ (ruleT_no 61 (by decide) (by decide) x.rule h2)]
    dsimp only
    rw [swap_back x.rule h2, parR_text x.rule h2, numD_itoa (n := 7) (by omega) (by omega) (by omega), ih]
    rfl
/-- A right transaction's text is read back: the reference. -/
theorem parT_text (x : TTx) (h : txFault x = 0) : parT (txT x) = some x := by
  obtain ⟨hk, hkm, hm, hi, ho, hI, hO⟩ := tx_bounds h
  have hc := cut_tx h
  have hr := par_refs x.ins hI
  have hcr := cut_refs x.ins hi.1 hI
  have hou := par_outs x.outs hO
  have hen : ∀ k m, k = x.kind → m = x.member → parEnd (txT x) k m x.ins x.outs = some x := fun k m e1 e2 => by
    subst e1 e2
    unfold parEnd
    rw [if_pos ⟨h, rfl⟩]
  obtain ⟨w, wo, hwo⟩ : ∃ w wo, x.outs.map outT = w :: wo := by
    cases hq : x.outs with
    | nil => rw [hq] at ho; simp at ho
    | cons a l => exact ⟨_, _, rfl⟩
  unfold parT
  rw [hc]
  unfold txW
  rw [hwo] at hou ⊢
  by_cases h0 : x.kind = 0
  · have hm0 := hkm.1 h0
    rw [if_pos h0, h0, List.append_nil, List.append_assoc]
    simp only [List.cons_append, List.nil_append]
    rw [if_pos (by decide)]
    unfold parBody
    dsimp only
    rw [hcr, hr, hou]
    exact hen _ _ h0.symm hm0.symm
  · have hk2 : x.kind = 1 ∨ x.kind = 2 := by omega
    rw [if_neg h0]
    simp only [List.cons_append, List.nil_append]
    rcases hk2 with h1 | h1
    · rw [h1, if_neg (by decide), if_pos (.inl (by decide)), numD_itoa (n := 3) (by omega) hm.1 (by omega), if_pos rfl, if_pos (by decide)]
      unfold parBody
      dsimp only
      rw [hcr, hr, hou]
      exact hen _ _ h1.symm rfl
    · rw [h1, if_neg (by decide), if_pos (.inr (by decide)), numD_itoa (n := 3) (by omega) hm.1 (by omega), if_pos rfl, if_neg (by decide)]
      unfold parBody
      dsimp only
      rw [hcr, hr, hou]
      exact hen _ _ h1.symm rfl
theorem rdFin_ok {t : List UInt8} {k m : Int} {ins : List TRef} {o : Option (List TOut)} (h : (rdFin t k m ins o).2 = true) : txFault (rdFin t k m ins o).1 = 0 ∧ txT (rdFin t k m ins o).1 = t := by
  unfold rdFin at h ⊢
  cases o with
  | none => cases h
  | some outs =>
    dsimp only at h ⊢
    unfold chkT at h ⊢
    by_cases hf : txFault ⟨k, m, ins, outs⟩ = 0
    · rw [if_pos hf] at h ⊢
      simp only [Bool.and_eq_true, beq_iff_eq] at h
      exact ⟨hf, h.2⟩
    · rw [if_neg hf] at h; cases h
theorem rdBody_ok {t : List UInt8} {k m : Int} {ws : List (List UInt8)} (h : (rdBody t k m ws).2 = true) : txFault (rdBody t k m ws).1 = 0 ∧ txT (rdBody t k m ws).1 = t := by
  unfold rdBody at h ⊢
  split at h
  · split at h
    · cases h
    · rename_i h1
      rw [if_neg h1]
      exact rdFin_ok h
  · cases h
/-- What the program read is right, and told again it is the text. -/
theorem readT_ok {t : List UInt8} (h : (readT t).2 = true) : txFault (readT t).1 = 0 ∧ txT (readT t).1 = t := by
  unfold readT at h ⊢
  by_cases h3 : 300 < t.length
  · rw [if_pos h3] at h; cases h
  rw [if_neg h3] at h ⊢
  split at h
  · split at h
    · rename_i h1
      rw [if_pos h1]
      exact rdBody_ok h
    · rename_i h1
      rw [if_neg h1]
      split at h
      · cases h
      · rename_i h2
        rw [if_neg h2]
        split at h
        · exact rdBody_ok h
        · cases h
  · cases h
theorem parBody_ok {t : List UInt8} {k m : Int} {ws : List (List UInt8)} {x : TTx} (h : parBody t k m ws = some x) : txFault x = 0 ∧ txT x = t := by
  unfold parBody at h
  split at h
  · obtain ⟨ins, _, h⟩ := Option.bind_eq_some_iff.1 h
    obtain ⟨outs, _, h⟩ := Option.bind_eq_some_iff.1 h
    unfold parEnd at h
    by_cases hc : txFault ⟨k, m, ins, outs⟩ = 0 ∧ txT ⟨k, m, ins, outs⟩ = t
    · rw [if_pos hc] at h
      injection h with h
      subst h
      exact hc
    · rw [if_neg hc] at h; cases h
  · cases h
/-- What the reference read is right, and told again it is the text. -/
theorem parT_ok {t : List UInt8} {x : TTx} (h : parT t = some x) : txFault x = 0 ∧ txT x = t := by
  unfold parT at h
  split at h
  · split at h
    · exact parBody_ok h
    · split at h
      · split at h
        · split at h
          · exact parBody_ok h
          · cases h
        · cases h
      · cases h
  · cases h
/-- Both sides read the same transaction. -/
theorem par_readT (t : List UInt8) (h3 : t.length ≤ 300) : parT t = if (readT t).2 then some (readT t).1 else none := by
  cases hr : (readT t).2 with
  | true =>
    obtain ⟨h1, h2⟩ := readT_ok hr
    rw [if_pos rfl]
    have := parT_text _ h1
    rw [h2] at this
    exact this
  | false =>
    rw [if_neg (by simp)]
    cases hp : parT t with
    | none => rfl
    | some x =>
      obtain ⟨h1, h2⟩ := parT_ok hp
      have := readT_text x h1 (by rw [h2]; exact h3)
      rw [h2] at this
      rw [this] at hr
      cases hr
end Go.BM
