/- Packed: K13, K14, K5, G2, T8, G3, D2, U0, T14, M1, M0, M2, U1, U3. -/
import Derived.Lib.ConvBytes
import Derived.Lib.SlBytesRow
import Derived.Lib.SmallJoins
import Derived.Sort.WalkA
import Derived.WalkSmall
import Derived.Test.YtboephigjgncaaaGreatDoorZ3
import Derived.Test.YtboephigjgncaaaGreatDoorZ4
/- spec.l3Swap: a text with one byte in place of another one: walked over whole worlds. -/
set_option linter.unusedVariables false
set_option linter.unusedSimpArgs false
set_option maxRecDepth 100000
namespace Go.Proofs
open Go.RowKit Go.Sort Go.BM
/-- One byte in place of another one. -/
def swB (x y b : UInt8) : UInt8 := if b = x then y else b
def swapL (x y : UInt8) (l : List UInt8) : List UInt8 := l.map (swB x y)
theorem bytes_frozen (w : World) (e : TypeId) (s : ByteArray) (t : Nat) (ht : t < s.size) : (Lib.bytesWorld w e s).frozen? ⟨w.heap.size, t, none⟩ = false := by
  unfold World.frozen?
  simp only [Lib.bytesWorld_at_new]
  have : s.size ≤ (Lib.bytesCells w e s).size := by simp [Lib.bytesCells]
  simp
  omega
theorem swap_calls (l : List UInt8) (hl : l.length ≤ 1000000) (x y : UInt8) (w : World) :
    Calls Tryz.prog 80 #[.string (bs l), .int .u8 (x.toNat : Int), .int .u8 (y.toNat : Int)] w fun e w' => e = .returned (.string (bs (swapL x y l))) ∧ Below w.heap.size w w' := by
  obtain ⟨n, hn⟩ : ∃ n, n = w.heap.size := ⟨_, rfl⟩
  obtain ⟨W1, hW1⟩ : ∃ W1, W1 = Lib.bytesWorld w 5 (bs l) := ⟨_, rfl⟩
  obtain ⟨cap, hcap⟩ : ∃ cap, cap = grownCap w (bs l).size 0 5 := ⟨_, rfl⟩
  have hz : (bs l).size = l.length := bs_size l
  have hB : ∀ t, t < l.length → W1.cell? ⟨n, t, none⟩ = some (.int .u8 ((l.getD t 0).toNat : Int)) := fun t ht => by
    rw [hW1, hn, Lib.bytesWorld_cell w 5 (bs l) t (by omega)]
  have hF : ∀ t, t < l.length → W1.frozen? ⟨n, t, none⟩ = false := fun t ht => by
    rw [hW1, hn]; exact bytes_frozen _ _ _ _ (by omega)
  have hb1 : Below n w W1 := by rw [hW1]; exact Joins.below_bytesWorld _ _ _ _ (by omega)
  have hconv := Lib.run_convert_string_bytes (P := Tryz.prog) w 9 111 5 (bs l) (u := .string) Tryz.underlying9 Tryz.underlying111 Tryz.underlying5
  rw [← hW1, ← hcap, ← hn, hz] at hconv
  rw [← hn]
  clear hW1 hcap hn
  go_enter Tryz.func80, Tryz.ntmps80
  go_wp2
  go_loopw [8] (fun vi wr => ∃ i : Nat, vi = .int .i64 i ∧ i ≤ l.length ∧ Below n w wr ∧ (∀ t, t < l.length → wr.cell? ⟨n, t, none⟩ = some (.int .u8 ((if t < i then swB x y (l.getD t 0) else l.getD t 0).toNat : Int))) ∧ ∀ t, t < l.length → wr.frozen? ⟨n, t, none⟩ = false) (fun vi _ => l.length - (intOf vi).toNat)
  case atStart => exact ⟨0, rfl, by omega, hb1, fun t ht => by rw [hB t ht]; simp, hF⟩
  case round =>
    obtain ⟨i, rfl, hi, hb, hC, hFr⟩ := hrel
    have hstep : ∀ t : Nat, t ≠ i → (if t < i + 1 then swB x y (l.getD t 0) else l.getD t 0) = (if t < i then swB x y (l.getD t 0) else l.getD t 0) := fun t ht => by
      by_cases h1 : t < i
      · rw [if_pos h1, if_pos (by omega)]
      · rw [if_neg h1, if_neg (by omega)]
    have HC : Hid (∀ t, t < l.length → wr.cell? ⟨n, t, none⟩ = some (.int .u8 ((if t < i then swB x y (l.getD t 0) else l.getD t 0).toNat : Int))) := hC
    by_cases hli : i < l.length
    · go_wp2
      · have hlt : i < l.length := by assumption
        have hq : (((l[i].toNat : Nat) : Int) == (x.toNat : Int)) = true := by assumption
        have hx : l[i] = x := by
          have : l[i].toNat = x.toNat := by
            have hq2 : ((l[i].toNat : Nat) : Int) = (x.toNat : Int) := by simpa using hq
            exact Int.ofNat.inj hq2
          exact UInt8.toNat_inj.1 this
        refine ⟨⟨i + 1, by simp, by omega, hb.setCell (Nat.le_refl _) _, fun t ht => ?_, fun t ht => by rw [World.frozen?_setCell]; exact hFr t ht⟩, by simp [intOf]; omega⟩
        by_cases hti : t = i
        · subst hti
          rw [World.cell?_setCell_same _ _ _ (HC.out t ht), if_pos (by omega)]
          simp [swB, List.getD, hlt, hx]
        · rw [World.cell?_setCell_other _ _ _ _ (by intro e; cases e; exact hti rfl), HC.out t ht, hstep t hti]
      · have hlt : i < l.length := by assumption
        have hq : (((l[i].toNat : Nat) : Int) == (x.toNat : Int)) = false := by assumption
        have hx : l[i] ≠ x := by
          intro e
          rw [e] at hq
          simp at hq
        refine ⟨⟨i + 1, by simp, by omega, hb, fun t ht => ?_, hFr⟩, by simp [intOf]; omega⟩
        rw [HC.out t ht]
        by_cases hti : t = i
        · subst hti
          rw [if_neg (by omega), if_pos (by omega)]
          simp [swB, List.getD, hlt, hx]
        · rw [hstep t hti]
    · have hil : i = l.length := by omega
      subst hil
      have hby : Lib.Bytes wr n 0 (bs (swapL x y l)) := fun t ht => by
        have ht' : t < l.length := by rw [bs_size, swapL, List.length_map] at ht; exact ht
        rw [Nat.zero_add, hC t ht', if_pos ht', bs_get _ t ht]
        simp [swapL, List.getD, ht']
      have hz2 : (bs (swapL x y l)).size = l.length := by rw [bs_size, swapL, List.length_map]
      have hconv2 := Lib.run_convert_whole (P := Tryz.prog) wr 111 5 9 Tryz.underlying111 Tryz.underlying5 Tryz.underlying9 n 0 (bs (swapL x y l)) hby cap
      rw [hz2] at hconv2
      clear hby hz2
      go_wp2
      go_ret
      exact ⟨rfl, hb⟩
end Go.Proofs
namespace Go.BM
open Go.RowKit Go.Proofs
/-- A contract over whole worlds, for several values at once. -/
theorem PCalls.ofCT {P : Program} {f : FuncId} {args xs : List Value} (hc : callable P f = true) (ha : ∀ d ∈ args, flatV d = true) (hv : ∀ d ∈ xs, flatV d = true)
    (h : ∀ (σ : Sg) (w : World), Sim σ [] w → Calls P f args.toArray w fun e w' => e = .returned (.tuple xs.toArray) ∧ Below w.heap.size w w') : PCalls P f args (.tuple xs.toArray) :=
  ⟨hc, fun σ w vals hS hB hvl => by
    have e : vals = args.toArray := by rw [← flat_vrl hvl ha]
    rw [e]
    have hx : ∀ i (h1 : i < xs.toArray.size), flatV xs.toArray[i] = true := fun i h1 => hv _ (by simp)
    exact (h σ w hS).mono fun e w' ⟨h1, h2⟩ => ⟨_, h1, σ, [], _, .of_below h2, hS.below h2, .tuple _ _ rfl (fun i h1 _ => .flat _ (hx i h1)), .tuple _ _ rfl (fun i h1 _ => .same _ (.flat _ (hx i h1)))⟩⟩
theorem spec_l3Swap (l : List UInt8) (hl : l.length ≤ 1000000) (x y : UInt8) : PCalls Tryz.prog 80 [.string (bs l), .int .u8 (x.toNat : Int), .int .u8 (y.toNat : Int)] (.string (bs (swapL x y l))) :=
  PCalls.ofC (by kernel_rfl) (by simp [flatV]) rfl fun σ w hS => swap_calls l hl x y w
end Go.BM
/- strings.Cut at one byte. -/
set_option linter.unusedVariables false
set_option linter.unusedSimpArgs false
set_option maxRecDepth 100000
set_option maxHeartbeats 4000000
namespace Go.BM
open Go.Proofs Go.RowKit
attribute [local irreducible] ACalls AWp aops qops optK optP cK gateA condK mops qcallK PCalls loadV fldV idxV lenV slV storeH binS
open Go.Proofs Go.RowKit
/-- A text cut at the first place of a byte. -/
def cutAt (c : UInt8) : List UInt8 → List UInt8 × List UInt8 × Bool
  | [] => ([], [], false)
  | x :: l => if x = c then ([], l, true) else (x :: (cutAt c l).1, (cutAt c l).2.1, (cutAt c l).2.2)
theorem cutAt_cut (c : UInt8) : ∀ l : List UInt8, Lib.cut l [c] = cutAt c l
  | [] => by
    unfold Lib.cut
    rw [if_neg (by simp [Lib.index])]
    rfl
  | x :: l => by
    by_cases h : x = c
    · subst h
      have hix : Lib.index (x :: l) [x] = 0 := by rw [Lib.index]; simp [List.isPrefixOf]
      unfold Lib.cut
      rw [hix, if_pos (by decide), cutAt, if_pos rfl]
      rfl
    · have ih := cutAt_cut c l
      have hp : ([c] : List UInt8).isPrefixOf (x :: l) = false := by simp [List.isPrefixOf, Ne.symm h]
      have hix : Lib.index (x :: l) [c] = if Lib.index l [c] == -1 then -1 else Lib.index l [c] + 1 := by rw [Lib.index, hp]; simp
      have hge := Lib.index_ge l [c]
      rw [cutAt, if_neg h, ← ih]
      unfold Lib.cut
      rw [hix]
      by_cases hm : Lib.index l [c] = -1
      · rw [hm, if_pos (show ((-1 : Int) == -1) = true from rfl), if_neg (by decide)]
        rfl
      · have hm1 : ¬ (Lib.index l [c] == -1) = true := fun e => hm (beq_iff_eq.1 e)
        rw [if_neg hm1, if_pos (by omega), if_pos (by omega)]
        have e1 : (Lib.index l [c] + 1).toNat = (Lib.index l [c]).toNat + 1 := by omega
        rw [e1, show (Lib.index l [c]).toNat + 1 + [c].length = ((Lib.index l [c]).toNat + [c].length) + 1 by omega]
        rfl
theorem cutAt_len (c : UInt8) : ∀ l : List UInt8, (cutAt c l).1.length ≤ l.length ∧ (cutAt c l).2.1.length ≤ l.length
  | [] => ⟨Nat.le_refl _, Nat.le_refl _⟩
  | x :: l => by
    have ih := cutAt_len c l
    unfold cutAt
    split
    · exact ⟨by simp, by simp⟩
    · exact ⟨by simpa using ih.1, by simp; omega⟩
theorem lib_Cut (t : List UInt8) (c : UInt8) (ht : t.length ≤ 1048576) : PCalls Tryz.prog 84 [.string (bs t), .string (bs [c])] (.tuple #[.string (bs (cutAt c t).1), .string (bs (cutAt c t).2.1), .bool (cutAt c t).2.2]) :=
  PCalls.ofCT (xs := [.string (bs (cutAt c t).1), .string (bs (cutAt c t).2.1), .bool (cutAt c t).2.2]) (by kernel_rfl) (by simp [flatV]) (by simp [flatV]) fun σ w hS => by
    obtain ⟨m, hm⟩ := hS.maxLen
    refine (Tryz.strings_Cut (bs t) (bs [c]) m w (by rw [bs_size]; omega) hm).mono ?_
    rintro e w' ⟨rfl, n, rfl⟩
    rw [bs_list, bs_list, cutAt_cut]
    exact ⟨rfl, ⟨rfl, rfl, rfl, Nat.le_refl _, fun _ _ => rfl⟩⟩
end Go.BM
/- Numbers with something between; the text of a block: the program. -/
set_option linter.unusedVariables false
set_option linter.unusedSimpArgs false
set_option maxRecDepth 100000
set_option maxHeartbeats 4000000
namespace Go.BM
open Go.Proofs Go.RowKit
attribute [local irreducible] ACalls AWp aops qops optK optP cK gateA condK mops qcallK PCalls loadV fldV idxV lenV slV storeH binS
theorem dec_len {u : Nat} (h : u ≤ 999) : (Lib.decDigits u).length ≤ 3 := by
  by_cases h1 : u < 10
  · rw [Lib.decDigits, dif_pos h1]; simp
  · rw [Lib.decDigits, dif_neg h1]
    by_cases h2 : u / 10 < 10
    · rw [Lib.decDigits, dif_pos h2]; simp
    · rw [Lib.decDigits, dif_neg h2, Lib.decDigits, dif_pos (by omega)]; simp
theorem itoa_nat {x : Int} (h : 0 ≤ x) : Lib.itoa x = Lib.decDigits x.toNat := by unfold Lib.itoa; rw [if_neg (by omega)]
theorem itoa_len {x : Int} (h : 0 ≤ x) (h2 : x ≤ 999) : (Lib.itoa x).length ≤ 3 := by rw [itoa_nat h]; exact dec_len (by omega)
theorem joinTail_len (c : UInt8) : ∀ ws : List (List UInt8), (∀ w ∈ ws, w.length ≤ 3) → (Lib.joinTail [c] ws).length ≤ ws.length * 4
  | [], _ => by simp [Lib.joinTail]
  | w :: ws, h => by
    have ih := joinTail_len c ws fun y hy => h y (by simp [hy])
    have hw := h w (by simp)
    unfold Lib.joinTail at ih ⊢
    simp at ih ⊢
    omega
theorem join_len (c : UInt8) (ws : List (List UInt8)) (h : ∀ w ∈ ws, w.length ≤ 3) : (Lib.join ws [c]).length ≤ ws.length * 4 := by
  cases ws with
  | nil => simp [Lib.join_nil]
  | cons w ws =>
    rw [Lib.join_cons, List.length_append]
    have := joinTail_len c ws fun y hy => h y (by simp [hy])
    have hw := h w (by simp)
    simp
    omega
def joinI (c : UInt8) (xs : List Int) : List UInt8 := Lib.join (xs.map Lib.itoa) [c]
theorem joinI_len (c : UInt8) (xs : List Int) (hx : ∀ x ∈ xs, 0 ≤ x ∧ x ≤ 999) : (joinI c xs).length ≤ xs.length * 4 := by
  have := join_len c (xs.map Lib.itoa) fun w hw => by
    obtain ⟨x, hx', rfl⟩ := List.mem_map.1 hw
    exact itoa_len (hx x hx').1 (hx x hx').2
  rwa [List.length_map] at this
def decS (x : Int) : ByteArray := ⟨(Lib.itoa x).toArray⟩
theorem impl_joined (xs : List Int) (c : UInt8) (hx : ∀ x ∈ xs, 0 ≤ x ∧ x ≤ 999) (hn : xs.length ≤ 1000) : PCalls Tryz.prog 96 [islE intE xs, .string (bs [c])] (.string (bs (joinI c xs))) := by
  have hml : (xs.map decS).map (·.data.toList) = xs.map Lib.itoa := by rw [List.map_map]; apply List.map_congr_left; intro x _; simp [decS]
  have hj := lib_Join (xs.map decS) (bs [c]) (by rw [List.length_map]; omega) (by
    rw [hml, bs_list]
    have := joinI_len c xs hx
    unfold joinI at this
    omega)
  rw [hml, bs_list] at hj
  have hd : ∀ (k : Nat) (hk : k < xs.length), PCalls Tryz.prog 93 [.int .i64 xs[k]] (.string (decS xs[k])) := fun k hk => lib_dec _ (by have := hx _ (List.getElem_mem hk); omega) (by have := hx _ (List.getElem_mem hk); omega)
  have hj' : PCalls Tryz.prog 109 [islE strE (xs.map decS), .string (bs [c])] (.string (bs (joinI c xs))) := hj
  clear hj hml
  generalize joinI c xs = R at hj' ⊢
  refine PCalls.flat rfl ?_; refine ACalls.enter (n := 24) (rs := [.tmp 4]) Tryz.func96 rfl rfl rfl (by kernel_rfl) (by kernel_rfl) (by kernel_rfl) (Nat.le_of_ble_eq_true rfl) ?_
  repeat' (first | (refine KT.run _ ?_) | (refine AWp.seqH fun KC => ?_) | (refine AWp.block ?_) | (refine AWp.region ?_) | (simp only [bse, wk, tys, storeH_ptr, Nat.reduceEqDiff, ↓reduceIte, reduceCtorEq, Nat.reduceAdd, Nat.reduceLeDiff, Int.reduceBEq, Int.reduceLT, Int.reduceLE, Int.reduceEq, ne_eq, not_false_eq_true, Nat.reduceMul, *]))
  refine AWp.loopH [12, 13, 14, 7, 15, 16, 17, 18, 19, 5, 20, 11] (fun m e' H' => ∃ (k ver : Nat) (G : AH), k ≤ xs.length ∧ m = xs.length - k ∧ e' 11 = .int .i64 k ∧ e' 5 = .slice (some ⟨0, 0, none⟩) k ver ∧ H' = ⟨9, 1, strE.flat ((xs.take k).map decS), ver, true⟩ :: G) xs.length ⟨0, 0, _, by omega, by omega, rfl, rfl, rfl⟩ ?_
  rintro m e' H' hA ⟨k, ver, G, hk, rfl, e11, e5, rfl⟩ hJ
  have a1 := hA 1 rfl; have a4 := hA 4 rfl; have a9 := hA 9 rfl; have a10 := hA 10 rfl; try simp only [bse, wk, tys, storeH_ptr, Nat.reduceEqDiff, ↓reduceIte, reduceCtorEq, Nat.reduceAdd, Nat.reduceLeDiff, Int.reduceBEq, Int.reduceLT, Int.reduceLE, Int.reduceEq, ne_eq, not_false_eq_true, Nat.reduceMul] at a1 a4 a9 a10; clear hA
  by_cases hlt : k < xs.length
  · have hlt' : (k : Int) < (xs.length : Int) := by omega
    have hw := wr_succ (k := k) (by omega)
    have hdk := hd k hlt
    have hkl : ((xs.take k).map decS).length = k := by rw [List.length_map, List.length_take]; omega
    have hap := appendH_one (P := Tryz.prog) (B := 0) (E := strE) (H0 := ⟨9, 1, strE.flat ((xs.take k).map decS), ver, true⟩ :: G) (ys := (xs.take k).map decS) (decS xs[k]) elZ22 elZ22 zOk22 (r := 0) rfl (Nat.zero_le _) (by omega) (by omega)
    rw [hkl, ← map_step decS xs k hlt] at hap
    simp only [List.cons_append, List.length_cons, List.set_cons_succ, List.set_cons_zero, strE_sz, strE_val, cells_str] at hap
    clear hkl hd hj'
    repeat' (first | (refine ACalls.start ?_; first | (refine ACalls.ofJi (hdk) rfl ?_)) | (refine KV.run _ ?_) | (refine KT.run _ ?_) | (refine AWp.seqH fun KC => ?_) | (refine AWp.block ?_) | (refine AWp.region ?_) | (refine AWp.skip ?_) | (refine aops_callH rfl fun kC => ?_) | (refine AWp.condB ?_) | (simp only [bse, wk, tys, storeH_ptr, Nat.reduceEqDiff, ↓reduceIte, reduceCtorEq, Nat.reduceAdd, Nat.reduceLeDiff, Int.reduceBEq, Int.reduceLT, Int.reduceLE, Int.reduceEq, ne_eq, not_false_eq_true, Nat.reduceMul, *]))
    exact hJ.out _ _ ⟨xs.length - (k + 1), by omega, k + 1, ver + 1, _, by omega, rfl, rfl, by simp [put], rfl⟩ (by repeat (first | exact Agree.refl _ _ | assumption | refine Agree.put ?_ rfl _))
  · have hlt' : ¬ (k : Int) < (xs.length : Int) := by omega
    have hke : k = xs.length := by omega
    subst hke
    rw [List.take_length]
    have hb : BorL (⟨9, 1, strE.flat (xs.map decS), ver, true⟩ :: G) [.slice (some ⟨0, 0, none⟩) xs.length ver, .string (bs [c])] [islE strE (xs.map decS), .string (bs [c])] :=
      .cons (Bor.sbE (E := strE) (ys := xs.map decS) rfl (fun _ => rfl) (by rw [List.length_map])) (.cons (.same _ (.flat _ rfl)) .nil)
    have hjo := fun (B : Nat) => ACalls.ofP (B := B) (k := fun d H' => d = .string (bs R) ∧ ⟨9, 1, strE.flat (xs.map decS), ver, true⟩ :: G = H') hj' hb rfl ⟨rfl, rfl⟩
    clear hd hj' hb
    repeat' (first | (refine ACalls.start ?_; first | (refine ACalls.get (hjo _) (by first | exact Nat.le_refl _ | exact Nat.zero_le _ | (simp only [List.length_append, List.length_cons, List.length_nil]; omega) | (simp only [List.length_set]; omega) | omega) (by first | exact Nat.le_refl _ | exact Nat.zero_le _ | (simp only [List.length_append, List.length_cons, List.length_nil]; omega) | (simp only [List.length_set]; omega) | omega) ?_; rintro _ _ ⟨rfl, rfl⟩)) | (refine KV.run _ ?_) | (refine KT.run _ ?_) | (refine AWp.seqH fun KC => ?_) | (refine AWp.region ?_) | (refine AWp.ret ?_) | (refine AWp.exit ?_) | (refine aops_callH rfl fun kC => ?_) | (refine AWp.condB ?_) | (simp only [bse, wk, tys, storeH_ptr, Nat.reduceEqDiff, ↓reduceIte, reduceCtorEq, Nat.reduceAdd, Nat.reduceLeDiff, Int.reduceBEq, Int.reduceLT, Int.reduceLE, Int.reduceEq, ne_eq, not_false_eq_true, Nat.reduceMul, *]))
end Go.BM
/- Package slices. -/
set_option linter.unusedVariables false
set_option linter.unusedSimpArgs false
set_option maxRecDepth 100000
set_option maxHeartbeats 4000000
namespace Go.BM
open Go.Proofs Go.RowKit
attribute [local irreducible] ACalls AWp aops qops optK optP cK gateA condK mops qcallK PCalls loadV fldV idxV lenV slV storeH binS

theorem lib_ContainsFunc_int (xs : List Int) (hn : xs.length < 4611686018427387904) (g : FuncId) (caps : Array Value) (hc : ∀ c ∈ caps.toList, Im c) (p : Int → Bool)
    (hp : ∀ x ∈ xs, PCalls Tryz.prog g ([intE.val x] ++ caps.toList) (.bool (p x))) :
    PCalls Tryz.prog 156 [islE intE xs, .func (.func g) #[] caps] (.bool (xs.any p)) := by
  haveI : ImLs caps.toList := ⟨hc⟩
  have hz := findI_any p xs
  refine PCalls.flat rfl ?_; refine ACalls.enter (n := 9) (rs := [.tmp 4]) Tryz.func156 rfl rfl rfl (by kernel_rfl) (by kernel_rfl) (by kernel_rfl) (Nat.le_of_ble_eq_true rfl) ?_
  repeat' (first | (refine ACalls.start ?_; first | (refine ACalls.ofJi (lib_IndexFunc_int xs hn g caps hc p hp) rfl ?_)) | (refine KV.run _ ?_) | (refine KT.run _ ?_) | (refine AWp.seqH fun KC => ?_) | (refine AWp.region ?_) | (refine AWp.ret ?_) | (refine aops_callH rfl fun kC => ?_) | (simp only [bse, wk, tys, storeH_ptr, Nat.reduceEqDiff, ↓reduceIte, reduceCtorEq, Nat.reduceAdd, Nat.reduceLeDiff, Int.reduceBEq, Int.reduceLT, Int.reduceLE, Int.reduceEq, ne_eq, not_false_eq_true, Nat.reduceMul, *]))


end Go.BM
/- Quorums: their fault, those in common, the bad. -/
set_option linter.unusedVariables false
set_option linter.unusedSimpArgs false
set_option maxRecDepth 100000
set_option maxHeartbeats 4000000
namespace Go.BM
open Go.Proofs Go.RowKit
attribute [local irreducible] ACalls AWp aops qops optK optP cK gateA condK mops qcallK PCalls loadV fldV idxV lenV slV storeH binS
theorem impl_areKeys (xs : List Int) (hn : xs.length < 4611686018427387904) : PCalls Tryz.prog 139 [islE intE xs] (.bool (keysB xs)) := by
  have hf := lib_ContainsFunc_int xs hn 157 #[] (by repeat' (first | exact Im.nilL | refine Im.consL ?_ ?_ | refine Im.appL ?_ ?_ | exact Im.flat _ rfl | exact islE_im _ _ | exact Enc.val_im _ _ | assumption | refine Im.aggL ?_ | refine Im.funcL ?_ | refine Im.funcA ?_ | refine Im.isl ?_ | refine Im.ip ?_)) (fun a => !inB a 1 999) (fun x _ => impl_areKeys1 x)
  have hk : keysB xs = !xs.any fun a => !inB a 1 999 := by simp [keysB, List.all_eq_not_any_not]
  rw [hk]
  refine PCalls.flat rfl ?_; refine ACalls.enter (n := 6) (rs := [.tmp 2]) Tryz.func139 rfl rfl rfl (by kernel_rfl) (by kernel_rfl) (by kernel_rfl) (Nat.le_of_ble_eq_true rfl) ?_
  repeat' (first | (refine ACalls.start ?_; first | (refine ACalls.ofP (hf) ?_ ?_ ?_; (focus ((repeat' (first | exact BorL.nil | refine BorL.cons ?_ ?_ | exact Bor.same _ (by repeat' (first | exact Im.nilL | refine Im.consL ?_ ?_ | refine Im.appL ?_ ?_ | exact Im.flat _ rfl | exact islE_im _ _ | exact Enc.val_im _ _ | assumption | refine Im.aggL ?_ | refine Im.funcL ?_ | refine Im.funcA ?_ | refine Im.isl ?_ | refine Im.ip ?_)) | exact Bor.nil | exact Bor.sb (by first | (simp only [bse, wk, tys, storeH_ptr, Nat.reduceEqDiff, ↓reduceIte, reduceCtorEq, Nat.reduceAdd, Nat.reduceLeDiff, Int.reduceBEq, Int.reduceLT, Int.reduceLE, Int.reduceEq, ne_eq, not_false_eq_true, Nat.reduceMul, quorumE_val, quorumE_sz]; exact rfl) | (simp only [bse, wk, tys, storeH_ptr, Nat.reduceEqDiff, ↓reduceIte, reduceCtorEq, Nat.reduceAdd, Nat.reduceLeDiff, Int.reduceBEq, Int.reduceLT, Int.reduceLE, Int.reduceEq, ne_eq, not_false_eq_true, Nat.reduceMul, quorumE_val, quorumE_sz]; done) | (simp only [bse, wk, tys, storeH_ptr, Nat.reduceEqDiff, ↓reduceIte, reduceCtorEq, Nat.reduceAdd, Nat.reduceLeDiff, Int.reduceBEq, Int.reduceLT, Int.reduceLE, Int.reduceEq, ne_eq, not_false_eq_true, Nat.reduceMul, quorumE_val, quorumE_sz, *]; done)) (by first | exact fun _ => rfl | assumption | (intros; omega)) rfl | exact Bor.mks (by first | (simp only [bse, wk, tys, storeH_ptr, Nat.reduceEqDiff, ↓reduceIte, reduceCtorEq, Nat.reduceAdd, Nat.reduceLeDiff, Int.reduceBEq, Int.reduceLT, Int.reduceLE, Int.reduceEq, ne_eq, not_false_eq_true, Nat.reduceMul, quorumE_val, quorumE_sz]; exact rfl) | (simp only [bse, wk, tys, storeH_ptr, Nat.reduceEqDiff, ↓reduceIte, reduceCtorEq, Nat.reduceAdd, Nat.reduceLeDiff, Int.reduceBEq, Int.reduceLT, Int.reduceLE, Int.reduceEq, ne_eq, not_false_eq_true, Nat.reduceMul, quorumE_val, quorumE_sz]; done) | (simp only [bse, wk, tys, storeH_ptr, Nat.reduceEqDiff, ↓reduceIte, reduceCtorEq, Nat.reduceAdd, Nat.reduceLeDiff, Int.reduceBEq, Int.reduceLT, Int.reduceLE, Int.reduceEq, ne_eq, not_false_eq_true, Nat.reduceMul, quorumE_val, quorumE_sz, *]; done)) (by first | exact fun _ => rfl | assumption | (intros; omega)) (by intros; omega) | refine Bor.ptrL (by first | (simp only [bse, wk, tys, storeH_ptr, Nat.reduceEqDiff, ↓reduceIte, reduceCtorEq, Nat.reduceAdd, Nat.reduceLeDiff, Int.reduceBEq, Int.reduceLT, Int.reduceLE, Int.reduceEq, ne_eq, not_false_eq_true, Nat.reduceMul, quorumE_val, quorumE_sz]; exact rfl) | (simp only [bse, wk, tys, storeH_ptr, Nat.reduceEqDiff, ↓reduceIte, reduceCtorEq, Nat.reduceAdd, Nat.reduceLeDiff, Int.reduceBEq, Int.reduceLT, Int.reduceLE, Int.reduceEq, ne_eq, not_false_eq_true, Nat.reduceMul, quorumE_val, quorumE_sz]; done) | (simp only [bse, wk, tys, storeH_ptr, Nat.reduceEqDiff, ↓reduceIte, reduceCtorEq, Nat.reduceAdd, Nat.reduceLeDiff, Int.reduceBEq, Int.reduceLT, Int.reduceLE, Int.reduceEq, ne_eq, not_false_eq_true, Nat.reduceMul, quorumE_val, quorumE_sz, *]; done)) rfl rfl ⟨_, ?_, (by first | (simp only [bse, wk, tys, storeH_ptr, Nat.reduceEqDiff, ↓reduceIte, reduceCtorEq, Nat.reduceAdd, Nat.reduceLeDiff, Int.reduceBEq, Int.reduceLT, Int.reduceLE, Int.reduceEq, ne_eq, not_false_eq_true, Nat.reduceMul, quorumE_val, quorumE_sz]; exact rfl) | (simp only [bse, wk, tys, storeH_ptr, Nat.reduceEqDiff, ↓reduceIte, reduceCtorEq, Nat.reduceAdd, Nat.reduceLeDiff, Int.reduceBEq, Int.reduceLT, Int.reduceLE, Int.reduceEq, ne_eq, not_false_eq_true, Nat.reduceMul, quorumE_val, quorumE_sz]; done) | (simp only [bse, wk, tys, storeH_ptr, Nat.reduceEqDiff, ↓reduceIte, reduceCtorEq, Nat.reduceAdd, Nat.reduceLeDiff, Int.reduceBEq, Int.reduceLT, Int.reduceLE, Int.reduceEq, ne_eq, not_false_eq_true, Nat.reduceMul, quorumE_val, quorumE_sz, *]; done))⟩ (by simp) | refine Bor.aggL ?_ | refine Bor.funcL ?_)); done)); (focus ((first | exact rfl | (simp [pureV, flatV, quorumE_val, quorumE_sz]; done)))))) | (refine KV.run _ ?_) | (refine KT.run _ ?_) | (refine AWp.seqH fun KC => ?_) | (refine AWp.region ?_) | (refine AWp.ret ?_) | (refine aops_callH rfl fun kC => ?_) | (simp only [bse, wk, tys, storeH_ptr, Nat.reduceEqDiff, ↓reduceIte, reduceCtorEq, Nat.reduceAdd, Nat.reduceLeDiff, Int.reduceBEq, Int.reduceLT, Int.reduceLE, Int.reduceEq, ne_eq, not_false_eq_true, Nat.reduceMul, quorumE_val, quorumE_sz, *]))
theorem impl_isRising (xs : List Int) (hn : xs.length ≤ 140737488355328) : PCalls Tryz.prog 141 [islE intE xs] (.bool (risB xs)) := by
  refine PCalls.flat rfl ?_; refine ACalls.enter (n := 20) (rs := [.tmp 2]) Tryz.func141 rfl rfl rfl (by kernel_rfl) (by kernel_rfl) (by kernel_rfl) (Nat.le_of_ble_eq_true rfl) ?_
  repeat' (first | (refine KT.run _ ?_) | (refine AWp.seqH fun KC => ?_) | (refine AWp.block ?_) | (refine AWp.region ?_) | (simp only [bse, wk, tys, storeH_ptr, Nat.reduceEqDiff, ↓reduceIte, reduceCtorEq, Nat.reduceAdd, Nat.reduceLeDiff, Int.reduceBEq, Int.reduceLT, Int.reduceLE, Int.reduceEq, ne_eq, not_false_eq_true, Nat.reduceMul, quorumE_val, quorumE_sz, *]))
  refine AWp.loopH [4, 5, 6, 7, 10, 11, 12, 13, 14, 15, 16, 17, 18, 19, 2, 8, 9, 3] (fun m e' H' => ∃ k : Nat, 1 ≤ k ∧ m = xs.length - k ∧ e' 3 = .int .i64 k ∧ H' = [] ∧ Hid (∀ j (h1 : j + 1 < xs.length), j + 1 < k → xs[j] < xs[j + 1])) (xs.length - 1) ⟨1, by omega, by omega, rfl, rfl, fun j _ h => by omega⟩ ?_
  rintro m e' H' hA ⟨k, hk, rfl, h3, rfl, heq⟩ hJ
  have a0 := hA 0 rfl; try simp only [bse, wk, tys, storeH_ptr, Nat.reduceEqDiff, ↓reduceIte, reduceCtorEq, Nat.reduceAdd, Nat.reduceLeDiff, Int.reduceBEq, Int.reduceLT, Int.reduceLE, Int.reduceEq, ne_eq, not_false_eq_true, Nat.reduceMul] at a0; clear hA
  by_cases hlt : k < xs.length
  · have hlt' : (k : Int) < (xs.length : Int) := by omega
    obtain ⟨k', rfl⟩ : ∃ k', k = k' + 1 := ⟨k - 1, by omega⟩
    have hk2 : k' < xs.length := by omega
    have hw := wr_succ (k := k' + 1) (by omega)
    have hw2 : IntKind.i64.wrap (((k' + 1 : Nat) : Int) - 1) = (k' : Int) := by rw [wr] <;> omega
    by_cases hx : xs[k' + 1] ≤ xs[k']
    · have hr : Hid (risB xs = false) := risB_false hlt hx
      repeat' (first | (refine AWp.quiet (id := 4) (by kernel_rfl) (by kernel_rfl) ?_) | (refine KT.run _ ?_) | (refine AWp.seqH fun KC => ?_) | (refine AWp.block ?_) | (refine AWp.region ?_) | (refine AWp.ret ?_) | (refine AWp.skip ?_) | (refine AWp.condB ?_) | (simp only [bse, wk, tys, storeH_ptr, Nat.reduceEqDiff, ↓reduceIte, reduceCtorEq, Nat.reduceAdd, Nat.reduceLeDiff, Int.reduceBEq, Int.reduceLT, Int.reduceLE, Int.reduceEq, ne_eq, not_false_eq_true, Nat.reduceMul, quorumE_val, quorumE_sz, *]))
      rw [hr.out]
    · repeat' (first | (refine AWp.quiet (id := 4) (by kernel_rfl) (by kernel_rfl) ?_) | (refine KV.run _ ?_) | (refine KQ.run _ ?_) | (refine KT.run _ ?_) | (refine AWp.seqH fun KC => ?_) | (refine AWp.block ?_) | (refine AWp.region ?_) | (refine mops_step0 rfl rfl fun KC => ?_) | (refine mops_step1 rfl fun KC => ?_) | (refine mops_step2 rfl fun KC => ?_) | (refine AWp.ret ?_) | (refine AWp.skip ?_) | (refine AWp.exit ?_) | (refine aops_callH rfl fun kC => ?_) | (refine qops_callH rfl fun kC => ?_) | (refine AWp.condB ?_) | (simp only [bse, wk, tys, storeH_ptr, Nat.reduceEqDiff, ↓reduceIte, reduceCtorEq, Nat.reduceAdd, Nat.reduceLeDiff, Int.reduceBEq, Int.reduceLT, Int.reduceLE, Int.reduceEq, ne_eq, not_false_eq_true, Nat.reduceMul, quorumE_val, quorumE_sz, *]) | (refine condK_bool (fun hb => ?_) (fun hb => ?_) <;> ((try simp only [Bool.not_eq_true', Bool.not_eq_false'] at hb) <;> (try (have hbe := of_decide_eq_true hb)) <;> (try (have hbe := eq_of_beq hb)))) | (refine aops_partB ?_) | (refine qops_partB ?_))
      refine hJ.out _ _ ⟨xs.length - (k' + 1 + 1), by omega, k' + 1 + 1, by omega, rfl, rfl, rfl, fun j h1 hj => ?_⟩ (by repeat (first | exact Agree.refl _ _ | assumption | refine Agree.put ?_ rfl _))
      by_cases e : j = k'
      · subst e; omega
      · exact heq.out j h1 (by omega)
  · have hlt' : ¬ (k : Int) < (xs.length : Int) := by omega
    have hr : Hid (risB xs = true) := (risB_iff xs).2 fun j h1 => heq.out j h1 (by omega)
    repeat' (first | (refine KT.run _ ?_) | (refine AWp.seqH fun KC => ?_) | (refine AWp.region ?_) | (refine AWp.ret ?_) | (refine AWp.exit ?_) | (refine AWp.condB ?_) | (simp only [bse, wk, tys, storeH_ptr, Nat.reduceEqDiff, ↓reduceIte, reduceCtorEq, Nat.reduceAdd, Nat.reduceLeDiff, Int.reduceBEq, Int.reduceLT, Int.reduceLE, Int.reduceEq, ne_eq, not_false_eq_true, Nat.reduceMul, quorumE_val, quorumE_sz, *]))
    rw [hr.out]
end Go.BM
/- Package slices. -/
set_option linter.unusedVariables false
set_option linter.unusedSimpArgs false
set_option maxRecDepth 100000
set_option maxHeartbeats 4000000
namespace Go.BM
open Go.Proofs Go.RowKit
attribute [local irreducible] ACalls AWp aops qops optK optP cK gateA condK mops qcallK PCalls loadV fldV idxV lenV slV storeH binS

theorem lib_Index_str (xs : List ByteArray) (y : ByteArray) (hn : xs.length < 4611686018427387904) :
    PCalls Tryz.prog 70 [islE strE xs, strE.val y] (.int .i64 (findI (fun x => y == x) xs)) := by
  refine PCalls.flat rfl ?_; refine ACalls.enter (n := 19) (rs := [.tmp 4]) Tryz.func70 rfl rfl rfl (by kernel_rfl) (by kernel_rfl) (by kernel_rfl) (Nat.le_of_ble_eq_true rfl) ?_
  repeat' (first | (refine KT.run _ ?_) | (refine AWp.seqH fun KC => ?_) | (refine AWp.block ?_) | (refine AWp.region ?_) | (simp only [bse, wk, tys, storeH_ptr, Nat.reduceEqDiff, ↓reduceIte, reduceCtorEq, Nat.reduceAdd, Nat.reduceLeDiff, Int.reduceBEq, Int.reduceLT, Int.reduceLE, Int.reduceEq, ne_eq, not_false_eq_true, Nat.reduceMul, refE_val, refE_sz, signE_val, signE_sz, *]))
  refine AWp.loopH [9, 10, 5, 11, 12, 13, 14, 15, 16, 17, 4, 18, 8] (fun m e' H' => ∃ (k : Nat) (G : AH), k ≤ xs.length ∧ m = xs.length - k ∧ e' 8 = .int .i64 k ∧ H' = G ∧ Hid (∀ j (hj : j < xs.length), j < k → (y == xs[j]) = false)) xs.length ⟨0, [], by omega, by omega, rfl, rfl, fun j _ h => by omega⟩ ?_
  rintro m e' H' hA ⟨k, G, hk, rfl, h8, rfl, hno⟩ hJ
  have a0 := hA 0 rfl; have a1 := hA 1 rfl; have a7 := hA 7 rfl; try simp only [bse, wk, tys, storeH_ptr, Nat.reduceEqDiff, ↓reduceIte, reduceCtorEq, Nat.reduceAdd, Nat.reduceLeDiff, Int.reduceBEq, Int.reduceLT, Int.reduceLE, Int.reduceEq, ne_eq, not_false_eq_true, Nat.reduceMul] at a0 a1 a7; clear hA
  by_cases hlt : k < xs.length
  · have hlt' : (k : Int) < (xs.length : Int) := by omega
    have hw := wr_succ (k := k) (by omega)
    cases hcc : (y == xs[k]) with
    | true =>
      repeat' (first | (refine KT.run _ ?_) | (refine AWp.seqH fun KC => ?_) | (refine AWp.block ?_) | (refine AWp.region ?_) | (refine AWp.ret ?_) | (refine AWp.skip ?_) | (refine AWp.condB ?_) | (simp only [bse, wk, tys, storeH_ptr, Nat.reduceEqDiff, ↓reduceIte, reduceCtorEq, Nat.reduceAdd, Nat.reduceLeDiff, Int.reduceBEq, Int.reduceLT, Int.reduceLE, Int.reduceEq, ne_eq, not_false_eq_true, Nat.reduceMul, refE_val, refE_sz, signE_val, signE_sz, *]))
      rw [findI_hit (fun x => y == x) xs k hlt hno.out hcc]
    | false =>
      repeat' (first | (refine KT.run _ ?_) | (refine AWp.seqH fun KC => ?_) | (refine AWp.block ?_) | (refine AWp.region ?_) | (refine AWp.skip ?_) | (refine AWp.condB ?_) | (simp only [bse, wk, tys, storeH_ptr, Nat.reduceEqDiff, ↓reduceIte, reduceCtorEq, Nat.reduceAdd, Nat.reduceLeDiff, Int.reduceBEq, Int.reduceLT, Int.reduceLE, Int.reduceEq, ne_eq, not_false_eq_true, Nat.reduceMul, refE_val, refE_sz, signE_val, signE_sz, *]))
      refine hJ.out _ _ ⟨xs.length - (k + 1), by omega, k + 1, _, by omega, rfl, rfl, rfl, fun j hj hjk => ?_⟩ (by repeat (first | exact Agree.refl _ _ | assumption | refine Agree.put ?_ rfl _))
      by_cases e : j = k
      · subst e; exact hcc
      · exact hno.out j hj (by omega)
  · have hlt' : ¬ (k : Int) < (xs.length : Int) := by omega
    repeat' (first | (refine KT.run _ ?_) | (refine AWp.seqH fun KC => ?_) | (refine AWp.region ?_) | (refine AWp.ret ?_) | (refine AWp.exit ?_) | (refine AWp.condB ?_) | (simp only [bse, wk, tys, storeH_ptr, Nat.reduceEqDiff, ↓reduceIte, reduceCtorEq, Nat.reduceAdd, Nat.reduceLeDiff, Int.reduceBEq, Int.reduceLT, Int.reduceLE, Int.reduceEq, ne_eq, not_false_eq_true, Nat.reduceMul, refE_val, refE_sz, signE_val, signE_sz, *]))
    rw [findI_none (fun x => y == x) xs (fun j hj => hno.out j hj (by omega))]


theorem lib_Contains_str (xs : List ByteArray) (y : ByteArray) (hn : xs.length < 4611686018427387904) :
    PCalls Tryz.prog 44 [islE strE xs, strE.val y] (.bool (xs.any fun x => y == x)) := by
  have hz := findI_any (fun x => y == x) xs
  refine PCalls.flat rfl ?_; refine ACalls.enter (n := 9) (rs := [.tmp 4]) Tryz.func44 rfl rfl rfl (by kernel_rfl) (by kernel_rfl) (by kernel_rfl) (Nat.le_of_ble_eq_true rfl) ?_
  repeat' (first | (refine ACalls.start ?_; first | (refine ACalls.ofJi (lib_Index_str xs y hn) rfl ?_)) | (refine KV.run _ ?_) | (refine KT.run _ ?_) | (refine AWp.seqH fun KC => ?_) | (refine AWp.region ?_) | (refine AWp.ret ?_) | (refine aops_callH rfl fun kC => ?_) | (simp only [bse, wk, tys, storeH_ptr, Nat.reduceEqDiff, ↓reduceIte, reduceCtorEq, Nat.reduceAdd, Nat.reduceLeDiff, Int.reduceBEq, Int.reduceLT, Int.reduceLE, Int.reduceEq, ne_eq, not_false_eq_true, Nat.reduceMul, refE_val, refE_sz, signE_val, signE_sz, *]))


theorem lib_Index_Sign (xs : List TSign) (y : TSign) (hn : xs.length < 4611686018427387904) :
    PCalls Tryz.prog 71 [islE signE xs, signE.val y] (.int .i64 (findI (fun x => y.key == x.key && y.id == x.id) xs)) := by
  refine PCalls.flat rfl ?_; refine ACalls.enter (n := 19) (rs := [.tmp 4]) Tryz.func71 rfl rfl rfl (by kernel_rfl) (by kernel_rfl) (by kernel_rfl) (Nat.le_of_ble_eq_true rfl) ?_
  repeat' (first | (refine KT.run _ ?_) | (refine AWp.seqH fun KC => ?_) | (refine AWp.block ?_) | (refine AWp.region ?_) | (simp only [bse, wk, tys, storeH_ptr, Nat.reduceEqDiff, ↓reduceIte, reduceCtorEq, Nat.reduceAdd, Nat.reduceLeDiff, Int.reduceBEq, Int.reduceLT, Int.reduceLE, Int.reduceEq, ne_eq, not_false_eq_true, Nat.reduceMul, refE_val, refE_sz, signE_val, signE_sz, *]))
  refine AWp.loopH [9, 10, 5, 11, 12, 13, 14, 15, 16, 17, 4, 18, 8] (fun m e' H' => ∃ (k : Nat) (G : AH), k ≤ xs.length ∧ m = xs.length - k ∧ e' 8 = .int .i64 k ∧ H' = _ :: G ∧ Hid (∀ j (hj : j < xs.length), j < k → (y.key == xs[j].key && y.id == xs[j].id) = false)) xs.length ⟨0, [], by omega, by omega, rfl, rfl, fun j _ h => by omega⟩ ?_
  rintro m e' H' hA ⟨k, G, hk, rfl, h8, rfl, hno⟩ hJ
  have a0 := hA 0 rfl; have a3 := hA 3 rfl; have a7 := hA 7 rfl; try simp only [bse, wk, tys, storeH_ptr, Nat.reduceEqDiff, ↓reduceIte, reduceCtorEq, Nat.reduceAdd, Nat.reduceLeDiff, Int.reduceBEq, Int.reduceLT, Int.reduceLE, Int.reduceEq, ne_eq, not_false_eq_true, Nat.reduceMul] at a0 a3 a7; clear hA
  by_cases hlt : k < xs.length
  · have hlt' : (k : Int) < (xs.length : Int) := by omega
    have hw := wr_succ (k := k) (by omega)
    cases hcc : (y.key == xs[k].key && y.id == xs[k].id) with
    | true =>
      repeat' (first | (refine AWp.quiet (id := 4) (by kernel_rfl) (by kernel_rfl) ?_) | (refine KT.run _ ?_) | (refine AWp.seqH fun KC => ?_) | (refine AWp.block ?_) | (refine AWp.region ?_) | (refine AWp.ret ?_) | (refine AWp.skip ?_) | (refine AWp.condB ?_) | (simp only [bse, wk, tys, storeH_ptr, Nat.reduceEqDiff, ↓reduceIte, reduceCtorEq, Nat.reduceAdd, Nat.reduceLeDiff, Int.reduceBEq, Int.reduceLT, Int.reduceLE, Int.reduceEq, ne_eq, not_false_eq_true, Nat.reduceMul, refE_val, refE_sz, signE_val, signE_sz, *]))
      rw [findI_hit (fun x => y.key == x.key && y.id == x.id) xs k hlt hno.out hcc]
    | false =>
      repeat' (first | (refine AWp.quiet (id := 4) (by kernel_rfl) (by kernel_rfl) ?_) | (refine KT.run _ ?_) | (refine AWp.seqH fun KC => ?_) | (refine AWp.block ?_) | (refine AWp.region ?_) | (refine AWp.skip ?_) | (refine AWp.condB ?_) | (simp only [bse, wk, tys, storeH_ptr, Nat.reduceEqDiff, ↓reduceIte, reduceCtorEq, Nat.reduceAdd, Nat.reduceLeDiff, Int.reduceBEq, Int.reduceLT, Int.reduceLE, Int.reduceEq, ne_eq, not_false_eq_true, Nat.reduceMul, refE_val, refE_sz, signE_val, signE_sz, *]))
      refine hJ.out _ _ ⟨xs.length - (k + 1), by omega, k + 1, _, by omega, rfl, rfl, rfl, fun j hj hjk => ?_⟩ (by repeat (first | exact Agree.refl _ _ | assumption | refine Agree.put ?_ rfl _))
      by_cases e : j = k
      · subst e; exact hcc
      · exact hno.out j hj (by omega)
  · have hlt' : ¬ (k : Int) < (xs.length : Int) := by omega
    repeat' (first | (refine KT.run _ ?_) | (refine AWp.seqH fun KC => ?_) | (refine AWp.region ?_) | (refine AWp.ret ?_) | (refine AWp.exit ?_) | (refine AWp.condB ?_) | (simp only [bse, wk, tys, storeH_ptr, Nat.reduceEqDiff, ↓reduceIte, reduceCtorEq, Nat.reduceAdd, Nat.reduceLeDiff, Int.reduceBEq, Int.reduceLT, Int.reduceLE, Int.reduceEq, ne_eq, not_false_eq_true, Nat.reduceMul, refE_val, refE_sz, signE_val, signE_sz, *]))
    rw [findI_none (fun x => y.key == x.key && y.id == x.id) xs (fun j hj => hno.out j hj (by omega))]


theorem lib_Contains_Sign (xs : List TSign) (y : TSign) (hn : xs.length < 4611686018427387904) :
    PCalls Tryz.prog 47 [islE signE xs, signE.val y] (.bool (xs.any fun x => y.key == x.key && y.id == x.id)) := by
  have hz := findI_any (fun x => y.key == x.key && y.id == x.id) xs
  refine PCalls.flat rfl ?_; refine ACalls.enter (n := 9) (rs := [.tmp 4]) Tryz.func47 rfl rfl rfl (by kernel_rfl) (by kernel_rfl) (by kernel_rfl) (Nat.le_of_ble_eq_true rfl) ?_
  repeat' (first | (refine ACalls.start ?_; first | (refine ACalls.ofJi (lib_Index_Sign xs y hn) rfl ?_)) | (refine KV.run _ ?_) | (refine KT.run _ ?_) | (refine AWp.seqH fun KC => ?_) | (refine AWp.region ?_) | (refine AWp.ret ?_) | (refine aops_callH rfl fun kC => ?_) | (simp only [bse, wk, tys, storeH_ptr, Nat.reduceEqDiff, ↓reduceIte, reduceCtorEq, Nat.reduceAdd, Nat.reduceLeDiff, Int.reduceBEq, Int.reduceLT, Int.reduceLE, Int.reduceEq, ne_eq, not_false_eq_true, Nat.reduceMul, refE_val, refE_sz, signE_val, signE_sz, *]))


end Go.BM
/- Data: flat structs, their slices. -/
set_option linter.unusedVariables false
set_option linter.unusedSimpArgs false
set_option maxRecDepth 100000
set_option maxHeartbeats 4000000
namespace Go.BM
open Go.Proofs Go.RowKit
attribute [local irreducible] ACalls AWp aops qops optK optP cK gateA condK mops qcallK PCalls loadV fldV idxV lenV slV storeH binS

theorem laws_toStringS_own (H : AH) (xs : List ByteArray) (hn : xs.length ≤ 1048576) :
    ACalls Tryz.prog H.length 23 [islE strE xs] H fun d H' => d = .slice (some ⟨H.length, 0, none⟩) xs.length 0 ∧ H' = H ++ [⟨9, strE.sz, strE.flat xs, 0, true⟩] := by
  have hmk := makeH_cells (H := H) (P := Tryz.prog) elZ22 zer9 zOk22 (n := xs.length) (by omega) (by omega)
  refine ACalls.enter (n := 22) (rs := [.tmp 2]) Tryz.func23 rfl rfl rfl (by kernel_rfl) (by kernel_rfl) (by kernel_rfl) (Nat.le_of_ble_eq_true rfl) ?_
  repeat' (first | (refine KT.run _ ?_) | (refine AWp.seqH fun KC => ?_) | (refine AWp.block ?_) | (refine AWp.region ?_) | (simp only [bse, wk, tys, storeH_ptr, Nat.reduceEqDiff, ↓reduceIte, reduceCtorEq, Nat.reduceAdd, Nat.reduceLeDiff, Int.reduceBEq, Int.reduceLT, Int.reduceLE, Int.reduceEq, ne_eq, not_false_eq_true, Nat.reduceMul, *]))
  refine AWp.loopH [8, 9, 10, 11, 14, 15, 16, 17, 18, 19, 20, 12, 13, 4] (fun m e' H' => ∃ k : Nat, k ≤ xs.length ∧ m = xs.length - k ∧ e' 4 = .int .i64 k ∧ H' = H ++ [⟨9, strE.sz, strE.flat (xs.take k) ++ zerosOf [.string ⟨#[]⟩] ((xs.length - k) * strE.sz), 0, true⟩]) xs.length ⟨0, by omega, by omega, rfl, by simp [strE, Enc.flat, cellsV]⟩ ?_
  rintro m e' H' hA ⟨k, hk, rfl, h4, rfl⟩ hJ
  have a0 := hA 0 rfl; have a2 := hA 2 rfl; have a3 := hA 3 rfl; try simp only [bse, wk, tys, storeH_ptr, Nat.reduceEqDiff, ↓reduceIte, reduceCtorEq, Nat.reduceAdd, Nat.reduceLeDiff, Int.reduceBEq, Int.reduceLT, Int.reduceLE, Int.reduceEq, ne_eq, not_false_eq_true, Nat.reduceMul] at a0 a2 a3; clear hA
  by_cases hlt : k < xs.length
  · have hlt' : (k : Int) < (xs.length : Int) := by omega
    have hst := store_next (P := Tryz.prog) (B := H.length) (E := strE) (H := H ++ [⟨9, strE.sz, strE.flat (xs.take k) ++ zerosOf [.string ⟨#[]⟩] ((xs.length - k) * strE.sz), 0, true⟩]) (T := 9) (r := H.length) (k := k) (n := xs.length) (ys := xs.take k) (y := xs[k]) (by rw [get_app0]; rfl) (by simp; omega) hlt (Nat.le_refl _) lay9 rfl
    rw [take_next xs k hlt] at hst
    simp only [strE_sz, strE_val, Nat.mul_one] at hst
    have hw := wr_succ (k := k) (by omega)
    repeat' (first | (refine KT.run _ ?_) | (refine AWp.seqH fun KC => ?_) | (refine AWp.block ?_) | (refine AWp.region ?_) | (refine AWp.skip ?_) | (refine AWp.condB ?_) | (simp only [bse, wk, tys, Nat.reduceEqDiff, ↓reduceIte, reduceCtorEq, Nat.reduceAdd, Nat.reduceLeDiff, Int.reduceBEq, Int.reduceLT, Int.reduceLE, Int.reduceEq, ne_eq, not_false_eq_true, Nat.reduceMul, *]))
    exact hJ.out _ _ ⟨xs.length - (k + 1), by omega, k + 1, by omega, rfl, rfl, by simp only [strE_sz, Nat.mul_one]⟩ (by repeat (first | exact Agree.refl _ _ | assumption | refine Agree.put ?_ rfl _))
  · have hlt' : ¬ (k : Int) < (xs.length : Int) := by omega
    have : k = xs.length := by omega
    subst this
    repeat' (first | (refine KT.run _ ?_) | (refine AWp.seqH fun KC => ?_) | (refine AWp.region ?_) | (refine AWp.ret ?_) | (refine AWp.exit ?_) | (refine AWp.condB ?_) | (simp only [bse, wk, tys, storeH_ptr, Nat.reduceEqDiff, ↓reduceIte, reduceCtorEq, Nat.reduceAdd, Nat.reduceLeDiff, Int.reduceBEq, Int.reduceLT, Int.reduceLE, Int.reduceEq, ne_eq, not_false_eq_true, Nat.reduceMul, *]))
    simp [zerosOf_zero]
theorem laws_eqStringS (xs : List ByteArray) (hn : xs.length ≤ 1000000000000) : PCalls Tryz.prog 28 [islE strE xs, islE strE xs] (.bool true) := by
  refine PCalls.flat rfl ?_; refine ACalls.enter (n := 26) (rs := [.tmp 4]) Tryz.func28 rfl rfl rfl (by kernel_rfl) (by kernel_rfl) (by kernel_rfl) (Nat.le_of_ble_eq_true rfl) ?_
  repeat' (first | (refine KT.run _ ?_) | (refine AWp.seqH fun KC => ?_) | (refine AWp.block ?_) | (refine AWp.region ?_) | (refine AWp.skip ?_) | (refine AWp.condB ?_) | (simp only [bse, wk, tys, storeH_ptr, Nat.reduceEqDiff, ↓reduceIte, reduceCtorEq, Nat.reduceAdd, Nat.reduceLeDiff, Int.reduceBEq, Int.reduceLT, Int.reduceLE, Int.reduceEq, ne_eq, not_false_eq_true, Nat.reduceMul, *]))
  refine AWp.loopH [11, 12, 13, 14, 17, 18, 19, 20, 21, 22, 23, 24, 25, 4, 15, 16, 5] (fun m e' H' => ∃ k : Nat, k ≤ xs.length ∧ m = xs.length - k ∧ e' 5 = .int .i64 k ∧ H' = []) xs.length ⟨0, by omega, by omega, rfl, rfl⟩ ?_
  rintro m e' H' hA ⟨k, hk, rfl, h5, rfl⟩ hJ
  have a0 := hA 0 rfl; have a1 := hA 1 rfl; try simp only [bse, wk, tys, storeH_ptr, Nat.reduceEqDiff, ↓reduceIte, reduceCtorEq, Nat.reduceAdd, Nat.reduceLeDiff, Int.reduceBEq, Int.reduceLT, Int.reduceLE, Int.reduceEq, ne_eq, not_false_eq_true, Nat.reduceMul] at a0 a1; clear hA
  by_cases hlt : k < xs.length
  · have hlt' : (k : Int) < (xs.length : Int) := by omega
    have hw := wr_succ (k := k) (by omega)
    repeat' (first | (refine AWp.quiet (id := 6) (by kernel_rfl) (by kernel_rfl) ?_) | (refine KT.run _ ?_) | (refine AWp.seqH fun KC => ?_) | (refine AWp.block ?_) | (refine AWp.region ?_) | (refine AWp.skip ?_) | (refine AWp.condB ?_) | (simp only [bse, wk, tys, storeH_ptr, Nat.reduceEqDiff, ↓reduceIte, reduceCtorEq, Nat.reduceAdd, Nat.reduceLeDiff, Int.reduceBEq, Int.reduceLT, Int.reduceLE, Int.reduceEq, ne_eq, not_false_eq_true, Nat.reduceMul, *]))
    exact hJ.out _ _ ⟨xs.length - (k + 1), by omega, k + 1, by omega, rfl, rfl, rfl⟩ (by repeat (first | exact Agree.refl _ _ | assumption | refine Agree.put ?_ rfl _))
  · have hlt' : ¬ (k : Int) < (xs.length : Int) := by omega
    repeat' (first | (refine KT.run _ ?_) | (refine AWp.seqH fun KC => ?_) | (refine AWp.region ?_) | (refine AWp.ret ?_) | (refine AWp.exit ?_) | (refine AWp.condB ?_) | (simp only [bse, wk, tys, storeH_ptr, Nat.reduceEqDiff, ↓reduceIte, reduceCtorEq, Nat.reduceAdd, Nat.reduceLeDiff, Int.reduceBEq, Int.reduceLT, Int.reduceLE, Int.reduceEq, ne_eq, not_false_eq_true, Nat.reduceMul, *]))

end Go.BM
/- Strings: how many bytes they have together. -/
set_option linter.unusedVariables false
set_option linter.unusedSimpArgs false
set_option maxRecDepth 100000
set_option maxHeartbeats 4000000
namespace Go.BM
open Go.Proofs Go.RowKit
attribute [local irreducible] ACalls AWp aops qops optK optP cK gateA condK mops qcallK PCalls loadV fldV idxV lenV slV storeH binS
def nStrS (xs : List ByteArray) : Nat := xs.length + (xs.map ByteArray.size).sum
theorem nStrS_len (xs : List ByteArray) : xs.length ≤ nStrS xs := Nat.le_add_right _ _
/-- What is left of k behind strings; -1 if it is less than nothing. -/
def szSt : List ByteArray → Int → Int
  | [], k => k
  | x :: l, k => if k - x.size < 0 then -1 else szSt l (k - x.size)
theorem szSt_eq : ∀ (xs : List ByteArray) (k : Int), 0 ≤ k → szSt xs k = szI (xs.map ByteArray.size).sum k
  | [], k, h => by simp [szSt, szI]; omega
  | x :: l, k, h => by
    unfold szSt
    rw [List.map_cons, List.sum_cons]
    split
    · unfold szI; split <;> omega
    · rw [szSt_eq l _ (by omega)]
      unfold szI
      (repeat' split) <;> omega
theorem szSt_step (xs : List ByteArray) (j : Nat) (hj : j < xs.length) (k : Int) : szSt (xs.drop j) k = if k - xs[j].size < 0 then -1 else szSt (xs.drop (j + 1)) (k - xs[j].size) := by
  rw [List.drop_eq_getElem_cons hj]
  rfl
theorem laws_szStringS (xs : List ByteArray) (k : Int) (hk : 0 ≤ k) (hk2 : k ≤ 4611686018427387904) (hn : xs.length ≤ 9223372036854775807) (hs : ∀ y ∈ xs, y.size ≤ maxLen) :
    PCalls Tryz.prog 19 [islE strE xs, .int .i64 k] (.int .i64 (szI (nStrS xs) k)) := by
  have hw : IntKind.i64.wrap (k - (xs.length : Int)) = k - xs.length := wr (by omega) (by omega)
  by_cases hlt : k - (xs.length : Int) < 0
  · rw [show szI (nStrS xs) k = -1 by unfold szI nStrS; rw [if_pos (by omega)]]
    refine PCalls.flat rfl ?_; refine ACalls.enter (n := 28) (rs := [.tmp 4]) Tryz.func19 rfl rfl rfl (by kernel_rfl) (by kernel_rfl) (by kernel_rfl) (Nat.le_of_ble_eq_true rfl) ?_
    repeat' (first | (refine KT.run _ ?_) | (refine AWp.seqH fun KC => ?_) | (refine AWp.region ?_) | (refine AWp.ret ?_) | (refine AWp.condB ?_) | (simp only [bse, wk, tys, storeH_ptr, Nat.reduceEqDiff, ↓reduceIte, reduceCtorEq, Nat.reduceAdd, Nat.reduceLeDiff, Int.reduceBEq, Int.reduceLT, Int.reduceLE, Int.reduceEq, ne_eq, not_false_eq_true, Nat.reduceMul, *]))
  have hR : Hid (szI (nStrS xs) k = szSt xs (k - xs.length)) := by
    unfold Hid
    rw [szSt_eq _ _ (by omega)]
    unfold szI nStrS
    (repeat' split) <;> omega
  refine PCalls.flat rfl ?_; refine ACalls.enter (n := 28) (rs := [.tmp 4]) Tryz.func19 rfl rfl rfl (by kernel_rfl) (by kernel_rfl) (by kernel_rfl) (Nat.le_of_ble_eq_true rfl) ?_
  repeat' (first | (refine KT.run _ ?_) | (refine AWp.seqH fun KC => ?_) | (refine AWp.block ?_) | (refine AWp.region ?_) | (refine AWp.skip ?_) | (refine AWp.condB ?_) | (simp only [bse, wk, tys, storeH_ptr, Nat.reduceEqDiff, ↓reduceIte, reduceCtorEq, Nat.reduceAdd, Nat.reduceLeDiff, Int.reduceBEq, Int.reduceLT, Int.reduceLE, Int.reduceEq, ne_eq, not_false_eq_true, Nat.reduceMul, *]))
  refine AWp.loopH [12, 13, 14, 15, 18, 19, 20, 21, 22, 23, 24, 1, 25, 26, 4, 16, 17, 5] (fun m e' H' => ∃ (j : Nat) (c : Int), j ≤ xs.length ∧ m = xs.length - j ∧ e' 5 = .int .i64 j ∧ e' 1 = .int .i64 c ∧ 0 ≤ c ∧ c ≤ k ∧ H' = [] ∧ Hid (szI (nStrS xs) k = szSt (xs.drop j) c)) xs.length ⟨0, k - xs.length, by omega, by omega, rfl, by simp [put, env0, hw], by omega, by omega, rfl, hR⟩ ?_
  rintro m e' H' hA ⟨j, c, hj, rfl, h5, h1, hc0, hck, rfl, hF⟩ hJ
  have a0 := hA 0 rfl; try simp only [bse, wk, tys, storeH_ptr, Nat.reduceEqDiff, ↓reduceIte, reduceCtorEq, Nat.reduceAdd, Nat.reduceLeDiff, Int.reduceBEq, Int.reduceLT, Int.reduceLE, Int.reduceEq, ne_eq, not_false_eq_true, Nat.reduceMul] at a0; clear hA
  by_cases hl : j < xs.length
  · have hl' : (j : Int) < (xs.length : Int) := by omega
    have hwj := wr_succ (k := j) (by omega)
    have hsz : xs[j].size ≤ 9223372036854775807 := hs _ (List.getElem_mem hl)
    have hwc : IntKind.i64.wrap (c - (xs[j].size : Int)) = c - xs[j].size := wr (by omega) (by omega)
    have hstep : Hid _ := hF.out.trans (szSt_step xs j hl c)
    by_cases hneg : c - (xs[j].size : Int) < 0
    · repeat' (first | (refine KV.run _ ?_) | (refine KQ.run _ ?_) | (refine KT.run _ ?_) | (refine AWp.seqH fun KC => ?_) | (refine AWp.block ?_) | (refine AWp.region ?_) | (refine mops_step0 rfl rfl fun KC => ?_) | (refine mops_step1 rfl fun KC => ?_) | (refine mops_step2 rfl fun KC => ?_) | (refine AWp.ret ?_) | (refine AWp.skip ?_) | (refine AWp.exit ?_) | (refine aops_callH rfl fun kC => ?_) | (refine qops_callH rfl fun kC => ?_) | (refine AWp.condB ?_) | (simp only [bse, wk, tys, storeH_ptr, Nat.reduceEqDiff, ↓reduceIte, reduceCtorEq, Nat.reduceAdd, Nat.reduceLeDiff, Int.reduceBEq, Int.reduceLT, Int.reduceLE, Int.reduceEq, ne_eq, not_false_eq_true, Nat.reduceMul, *]) | (refine condK_bool (fun hb => ?_) (fun hb => ?_) <;> ((try simp only [Bool.not_eq_true', Bool.not_eq_false'] at hb) <;> (try (have hbe := of_decide_eq_true hb)) <;> (try (have hbe := eq_of_beq hb)))) | (refine aops_partB ?_) | (refine qops_partB ?_))
      rw [hstep.out, if_pos hneg]
    · repeat' (first | (refine KV.run _ ?_) | (refine KQ.run _ ?_) | (refine KT.run _ ?_) | (refine AWp.seqH fun KC => ?_) | (refine AWp.block ?_) | (refine AWp.region ?_) | (refine mops_step0 rfl rfl fun KC => ?_) | (refine mops_step1 rfl fun KC => ?_) | (refine mops_step2 rfl fun KC => ?_) | (refine AWp.ret ?_) | (refine AWp.skip ?_) | (refine AWp.exit ?_) | (refine aops_callH rfl fun kC => ?_) | (refine qops_callH rfl fun kC => ?_) | (refine AWp.condB ?_) | (simp only [bse, wk, tys, storeH_ptr, Nat.reduceEqDiff, ↓reduceIte, reduceCtorEq, Nat.reduceAdd, Nat.reduceLeDiff, Int.reduceBEq, Int.reduceLT, Int.reduceLE, Int.reduceEq, ne_eq, not_false_eq_true, Nat.reduceMul, *]) | (refine condK_bool (fun hb => ?_) (fun hb => ?_) <;> ((try simp only [Bool.not_eq_true', Bool.not_eq_false'] at hb) <;> (try (have hbe := of_decide_eq_true hb)) <;> (try (have hbe := eq_of_beq hb)))) | (refine aops_partB ?_) | (refine qops_partB ?_))
      exact hJ.out _ _ ⟨xs.length - (j + 1), by omega, j + 1, c - xs[j].size, by omega, rfl, rfl, by simp [put], by omega, by omega, rfl, by unfold Hid; rw [hstep.out, if_neg hneg]⟩ (by repeat (first | exact Agree.refl _ _ | assumption | refine Agree.put ?_ rfl _))
  · have hl' : ¬ (j : Int) < (xs.length : Int) := by omega
    have hz : Hid (szI (nStrS xs) k = c) := by unfold Hid; rw [hF.out, List.drop_eq_nil_of_le (by omega)]; rfl
    repeat' (first | (refine KT.run _ ?_) | (refine AWp.seqH fun KC => ?_) | (refine AWp.region ?_) | (refine AWp.ret ?_) | (refine AWp.exit ?_) | (refine AWp.condB ?_) | (simp only [bse, wk, tys, storeH_ptr, Nat.reduceEqDiff, ↓reduceIte, reduceCtorEq, Nat.reduceAdd, Nat.reduceLeDiff, Int.reduceBEq, Int.reduceLT, Int.reduceLE, Int.reduceEq, ne_eq, not_false_eq_true, Nat.reduceMul, *]))
    rw [hz.out]
end Go.BM
/- Ledgers: what is wrong with them, both sides; the text of a number. -/
set_option linter.unusedVariables false
set_option linter.unusedSimpArgs false
set_option maxRecDepth 100000
set_option maxHeartbeats 4000000
namespace Go.BM
open Go.Proofs Go.RowKit
attribute [local irreducible] ACalls AWp aops qops optK optP cK gateA condK mops qcallK PCalls loadV fldV idxV lenV slV storeH binS
def textB (s : ByteArray) : Bool := inB s.size 1 300
theorem textB_eq (s : ByteArray) : textB s = (!decide ((s.size : Int) < 1) && !decide ((300 : Int) < (s.size : Int))) := by
  unfold textB inB
  by_cases h1 : (s.size : Int) < 1 <;> by_cases h2 : (300 : Int) < (s.size : Int) <;> simp_all <;> omega
def txF (pre : List ByteArray) (x : ByteArray) : Int := if !textB x then 2 else if pre.any (fun y => x == y) then 7 else 0
def sgF (n : Nat) (pre : List TSign) (x : TSign) : Int := if !inB x.key 1 999 || !inB x.id 1 n then 3 else if pre.any (fun y => x.key == y.key && x.id == y.id) then 7 else 0
def ledgerFault (l : TLedger) : Int :=
  if decide ((60 : Int) < (l.texts.length : Int)) || decide ((120 : Int) < (l.signs.length : Int)) then 2
  else scanK txF (scanK (sgF l.texts.length) 0 [] l.signs) [] l.texts
theorem any_swapS (pre : List ByteArray) (t : ByteArray) : (pre.any fun y => y == t) = pre.any fun y => t == y := by
  congr 1
  funext y
  exact Bool.beq_comm
theorem any_swapG (pre : List TSign) (t : TSign) : (pre.any fun y => y.key == t.key && y.id == t.id) = pre.any fun y => t.key == y.key && t.id == y.id := by
  congr 1
  funext y
  rw [Bool.beq_comm, Bool.beq_comm (a := y.id)]
theorem impl_isText (s : ByteArray) : PCalls Tryz.prog 43 [.string s] (.bool (textB s)) := by
  unfold textB
  refine PCalls.flat rfl ?_; refine ACalls.enter (n := 6) (rs := [.tmp 2]) Tryz.func43 rfl rfl rfl (by kernel_rfl) (by kernel_rfl) (by kernel_rfl) (Nat.le_of_ble_eq_true rfl) ?_
  repeat' (first | (refine ACalls.start ?_; first | (refine ACalls.ofJi (impl_within _ _ _) rfl ?_)) | (refine KV.run _ ?_) | (refine KT.run _ ?_) | (refine AWp.seqH fun KC => ?_) | (refine AWp.region ?_) | (refine AWp.ret ?_) | (refine aops_callH rfl fun kC => ?_) | (simp only [bse, wk, tys, storeH_ptr, Nat.reduceEqDiff, ↓reduceIte, reduceCtorEq, Nat.reduceAdd, Nat.reduceLeDiff, Int.reduceBEq, Int.reduceLT, Int.reduceLE, Int.reduceEq, ne_eq, not_false_eq_true, Nat.reduceMul, signE_val, signE_sz, ledgerE_val, ledgerE_sz, *]))
theorem spec_l1At (xs : List ByteArray) (t : ByteArray) (hn : xs.length ≤ 1000000000000) : PCalls Tryz.prog 63 [islE strE xs, .string t] (.int .i64 (findI (fun x => x == t) xs + 1)) := by
  refine PCalls.flat rfl ?_; refine ACalls.enter (n := 20) (rs := [.tmp 4]) Tryz.func63 rfl rfl rfl (by kernel_rfl) (by kernel_rfl) (by kernel_rfl) (Nat.le_of_ble_eq_true rfl) ?_
  repeat' (first | (refine KT.run _ ?_) | (refine AWp.seqH fun KC => ?_) | (refine AWp.block ?_) | (refine AWp.region ?_) | (simp only [bse, wk, tys, storeH_ptr, Nat.reduceEqDiff, ↓reduceIte, reduceCtorEq, Nat.reduceAdd, Nat.reduceLeDiff, Int.reduceBEq, Int.reduceLT, Int.reduceLE, Int.reduceEq, ne_eq, not_false_eq_true, Nat.reduceMul, signE_val, signE_sz, ledgerE_val, ledgerE_sz, *]))
  refine AWp.loopH [6, 7, 8, 9, 12, 13, 14, 15, 16, 17, 18, 19, 4, 10, 11, 5] (fun m e' H' => ∃ (k : Nat) (G : AH), k ≤ xs.length ∧ m = xs.length - k ∧ e' 5 = .int .i64 k ∧ H' = G ∧ Hid (∀ j (hj : j < xs.length), j < k → (xs[j] == t) = false)) xs.length ⟨0, [], by omega, by omega, rfl, rfl, fun j _ h => by omega⟩ ?_
  rintro m e' H' hA ⟨k, G, hk, rfl, hix, rfl, hno⟩ hJ
  have a0 := hA 0 rfl; have a1 := hA 1 rfl; try simp only [bse, wk, tys, storeH_ptr, Nat.reduceEqDiff, ↓reduceIte, reduceCtorEq, Nat.reduceAdd, Nat.reduceLeDiff, Int.reduceBEq, Int.reduceLT, Int.reduceLE, Int.reduceEq, ne_eq, not_false_eq_true, Nat.reduceMul] at a0 a1; clear hA
  by_cases hlt : k < xs.length
  · have hlt' : (k : Int) < (xs.length : Int) := by omega
    have hw := wr_succ (k := k) (by omega)
    cases hcc : (xs[k] == t) with
    | true =>
      have hq : Hid _ := findI_hit (fun x => x == t) xs k hlt hno.out hcc
      repeat' (first | (refine KT.run _ ?_) | (refine AWp.seqH fun KC => ?_) | (refine AWp.block ?_) | (refine AWp.region ?_) | (refine AWp.ret ?_) | (refine AWp.skip ?_) | (refine AWp.condB ?_) | (simp only [bse, wk, tys, storeH_ptr, Nat.reduceEqDiff, ↓reduceIte, reduceCtorEq, Nat.reduceAdd, Nat.reduceLeDiff, Int.reduceBEq, Int.reduceLT, Int.reduceLE, Int.reduceEq, ne_eq, not_false_eq_true, Nat.reduceMul, signE_val, signE_sz, ledgerE_val, ledgerE_sz, *]))
      try rw [hq.out]
      try rfl
    | false =>
      repeat' (first | (refine KT.run _ ?_) | (refine AWp.seqH fun KC => ?_) | (refine AWp.block ?_) | (refine AWp.region ?_) | (refine AWp.skip ?_) | (refine AWp.condB ?_) | (simp only [bse, wk, tys, storeH_ptr, Nat.reduceEqDiff, ↓reduceIte, reduceCtorEq, Nat.reduceAdd, Nat.reduceLeDiff, Int.reduceBEq, Int.reduceLT, Int.reduceLE, Int.reduceEq, ne_eq, not_false_eq_true, Nat.reduceMul, signE_val, signE_sz, ledgerE_val, ledgerE_sz, *]))
      refine hJ.out _ _ ⟨xs.length - (k + 1), by omega, k + 1, _, by omega, rfl, rfl, rfl, fun j hj hjk => ?_⟩ (by repeat (first | exact Agree.refl _ _ | assumption | refine Agree.put ?_ rfl _))
      by_cases e : j = k
      · subst e; exact hcc
      · exact hno.out j hj (by omega)
  · have hlt' : ¬ (k : Int) < (xs.length : Int) := by omega
    have hq : Hid _ := findI_none (fun x => x == t) xs (fun j hj => hno.out j hj (by omega))
    repeat' (first | (refine KT.run _ ?_) | (refine AWp.seqH fun KC => ?_) | (refine AWp.region ?_) | (refine AWp.ret ?_) | (refine AWp.exit ?_) | (refine AWp.condB ?_) | (simp only [bse, wk, tys, storeH_ptr, Nat.reduceEqDiff, ↓reduceIte, reduceCtorEq, Nat.reduceAdd, Nat.reduceLeDiff, Int.reduceBEq, Int.reduceLT, Int.reduceLE, Int.reduceEq, ne_eq, not_false_eq_true, Nat.reduceMul, signE_val, signE_sz, ledgerE_val, ledgerE_sz, *]))
    try rw [hq.out]
    try rfl
theorem spec_l1Signed (xs : List TSign) (t : TSign) (hn : xs.length ≤ 1000000000000) : PCalls Tryz.prog 66 [islE signE xs, signE.val t] (.bool (xs.any fun x => x.key == t.key && x.id == t.id)) := by
  refine PCalls.flat rfl ?_; refine ACalls.enter (n := 18) (rs := [.tmp 4]) Tryz.func66 rfl rfl rfl (by kernel_rfl) (by kernel_rfl) (by kernel_rfl) (Nat.le_of_ble_eq_true rfl) ?_
  repeat' (first | (refine KT.run _ ?_) | (refine AWp.seqH fun KC => ?_) | (refine AWp.block ?_) | (refine AWp.region ?_) | (simp only [bse, wk, tys, storeH_ptr, Nat.reduceEqDiff, ↓reduceIte, reduceCtorEq, Nat.reduceAdd, Nat.reduceLeDiff, Int.reduceBEq, Int.reduceLT, Int.reduceLE, Int.reduceEq, ne_eq, not_false_eq_true, Nat.reduceMul, signE_val, signE_sz, ledgerE_val, ledgerE_sz, *]))
  refine AWp.loopH [6, 7, 8, 9, 12, 13, 14, 15, 16, 17, 4, 10, 11, 5] (fun m e' H' => ∃ (k : Nat) (G : AH), k ≤ xs.length ∧ m = xs.length - k ∧ e' 5 = .int .i64 k ∧ H' = _ :: G ∧ Hid (∀ j (hj : j < xs.length), j < k → (xs[j].key == t.key && xs[j].id == t.id) = false)) xs.length ⟨0, [], by omega, by omega, rfl, rfl, fun j _ h => by omega⟩ ?_
  rintro m e' H' hA ⟨k, G, hk, rfl, hix, rfl, hno⟩ hJ
  have a0 := hA 0 rfl; have a3 := hA 3 rfl; try simp only [bse, wk, tys, storeH_ptr, Nat.reduceEqDiff, ↓reduceIte, reduceCtorEq, Nat.reduceAdd, Nat.reduceLeDiff, Int.reduceBEq, Int.reduceLT, Int.reduceLE, Int.reduceEq, ne_eq, not_false_eq_true, Nat.reduceMul] at a0 a3; clear hA
  by_cases hlt : k < xs.length
  · have hlt' : (k : Int) < (xs.length : Int) := by omega
    have hw := wr_succ (k := k) (by omega)
    cases hcc : (xs[k].key == t.key && xs[k].id == t.id) with
    | true =>
      have hq : Hid _ := any_hit (fun x => x.key == t.key && x.id == t.id) xs k hlt hcc
      repeat' (first | (refine AWp.quiet (id := 4) (by kernel_rfl) (by kernel_rfl) ?_) | (refine KT.run _ ?_) | (refine AWp.seqH fun KC => ?_) | (refine AWp.block ?_) | (refine AWp.region ?_) | (refine AWp.ret ?_) | (refine AWp.skip ?_) | (refine AWp.condB ?_) | (simp only [bse, wk, tys, storeH_ptr, Nat.reduceEqDiff, ↓reduceIte, reduceCtorEq, Nat.reduceAdd, Nat.reduceLeDiff, Int.reduceBEq, Int.reduceLT, Int.reduceLE, Int.reduceEq, ne_eq, not_false_eq_true, Nat.reduceMul, signE_val, signE_sz, ledgerE_val, ledgerE_sz, *]))
      try rw [hq.out]
      try rfl
    | false =>
      repeat' (first | (refine AWp.quiet (id := 4) (by kernel_rfl) (by kernel_rfl) ?_) | (refine KT.run _ ?_) | (refine AWp.seqH fun KC => ?_) | (refine AWp.block ?_) | (refine AWp.region ?_) | (refine AWp.skip ?_) | (refine AWp.condB ?_) | (simp only [bse, wk, tys, storeH_ptr, Nat.reduceEqDiff, ↓reduceIte, reduceCtorEq, Nat.reduceAdd, Nat.reduceLeDiff, Int.reduceBEq, Int.reduceLT, Int.reduceLE, Int.reduceEq, ne_eq, not_false_eq_true, Nat.reduceMul, signE_val, signE_sz, ledgerE_val, ledgerE_sz, *]))
      refine hJ.out _ _ ⟨xs.length - (k + 1), by omega, k + 1, _, by omega, rfl, rfl, rfl, fun j hj hjk => ?_⟩ (by repeat (first | exact Agree.refl _ _ | assumption | refine Agree.put ?_ rfl _))
      by_cases e : j = k
      · subst e; exact hcc
      · exact hno.out j hj (by omega)
  · have hlt' : ¬ (k : Int) < (xs.length : Int) := by omega
    have hq : Hid _ := any_none (fun x => x.key == t.key && x.id == t.id) xs (fun j hj => hno.out j hj (by omega))
    repeat' (first | (refine KT.run _ ?_) | (refine AWp.seqH fun KC => ?_) | (refine AWp.region ?_) | (refine AWp.ret ?_) | (refine AWp.exit ?_) | (refine AWp.condB ?_) | (simp only [bse, wk, tys, storeH_ptr, Nat.reduceEqDiff, ↓reduceIte, reduceCtorEq, Nat.reduceAdd, Nat.reduceLeDiff, Int.reduceBEq, Int.reduceLT, Int.reduceLE, Int.reduceEq, ne_eq, not_false_eq_true, Nat.reduceMul, signE_val, signE_sz, ledgerE_val, ledgerE_sz, *]))
    try rw [hq.out]
    try rfl
theorem impl_LedgerFault (l : TLedger) (h1 : l.texts.length ≤ 1048576) (h2 : l.signs.length ≤ 1048576) : PCalls Tryz.prog 25 [ledgerE.val l] (.int .i64 (ledgerFault l)) := by
  refine PCalls.flat rfl ?_; refine ACalls.enter (n := 63) (rs := [.tmp 2]) Tryz.func25 rfl rfl rfl (by kernel_rfl) (by kernel_rfl) (by kernel_rfl) (Nat.le_of_ble_eq_true rfl) ?_
  repeat' (first | (refine KT.run _ ?_) | (refine AWp.seqH fun KC => ?_) | (refine AWp.block ?_) | (refine AWp.region ?_) | (refine AWp.ret ?_) | (refine AWp.skip ?_) | (refine AWp.condB ?_) | (simp only [bse, wk, tys, storeH_ptr, Nat.reduceEqDiff, ↓reduceIte, reduceCtorEq, Nat.reduceAdd, Nat.reduceLeDiff, Int.reduceBEq, Int.reduceLT, Int.reduceLE, Int.reduceEq, ne_eq, not_false_eq_true, Nat.reduceMul, signE_val, signE_sz, ledgerE_val, ledgerE_sz, *]) | (refine condK_bool (fun hb => ?_) (fun hb => ?_) <;> ((try simp only [Bool.not_eq_true', Bool.not_eq_false'] at hb) <;> (try (have hbe := of_decide_eq_true hb)) <;> (try (have hbe := eq_of_beq hb)))) | (refine aops_partB ?_))
  all_goals try (first | rfl | (simp only [ledgerFault, bse, wk, tys, storeH_ptr, Nat.reduceEqDiff, ↓reduceIte, reduceCtorEq, Nat.reduceAdd, Nat.reduceLeDiff, Int.reduceBEq, Int.reduceLT, Int.reduceLE, Int.reduceEq, ne_eq, not_false_eq_true, Nat.reduceMul, signE_val, signE_sz, ledgerE_val, ledgerE_sz, if_true, if_false, ite_true, ite_false, Bool.false_eq_true, *]; done) | (simp [ledgerFault, *]; done) | (simp_all [ledgerFault]; done) | (simp_all [ledgerFault]; (repeat' split) <;> first | rfl | omega))
  have hV0 : Hid (ledgerFault l = scanK (txF) (scanK (sgF l.texts.length) 0 [] l.signs) [] l.texts) := by unfold Hid; (first | rfl | (simp only [ledgerFault, bse, wk, tys, storeH_ptr, Nat.reduceEqDiff, ↓reduceIte, reduceCtorEq, Nat.reduceAdd, Nat.reduceLeDiff, Int.reduceBEq, Int.reduceLT, Int.reduceLE, Int.reduceEq, ne_eq, not_false_eq_true, Nat.reduceMul, signE_val, signE_sz, ledgerE_val, ledgerE_sz, if_true, if_false, ite_true, ite_false, Bool.false_eq_true, *]; done) | (simp [ledgerFault, *]; done) | (simp_all [ledgerFault]; done) | (simp_all [ledgerFault]; (repeat' split) <;> first | rfl | omega))
  refine AWp.loopH [21, 22, 23, 24, 3, 4, 25, 26, 27, 2, 28, 29, 30, 31, 32, 33, 34, 20] (fun m e' H' => ∃ (k : Nat) (G : AH), k ≤ l.texts.length ∧ m = l.texts.length - k ∧ e' 20 = .int .i64 k ∧ H' = _ :: G ∧ Hid (ledgerFault l = scanK (txF) (scanK (sgF l.texts.length) 0 [] l.signs) (l.texts.take k) (l.texts.drop k))) l.texts.length ⟨0, [], by omega, by omega, rfl, rfl, hV0⟩ ?_
  rintro m e' H' hA0 ⟨k, G, hk, rfl, hix, rfl, hF⟩ hJ
  have hA := hA0
  have a1 := hA 1 rfl; have a18 := hA 18 rfl; have a19 := hA 19 rfl; try simp only [bse, wk, tys, storeH_ptr, Nat.reduceEqDiff, ↓reduceIte, reduceCtorEq, Nat.reduceAdd, Nat.reduceLeDiff, Int.reduceBEq, Int.reduceLT, Int.reduceLE, Int.reduceEq, ne_eq, not_false_eq_true, Nat.reduceMul] at a1 a18 a19; clear hA
  by_cases hlt : k < l.texts.length
  · have hlt' : (k : Int) < (l.texts.length : Int) := by omega
    have hw := wr_succ (k := k) (by omega)
    have hs : Hid _ := hF.out.trans (scanK_step (txF) (scanK (sgF l.texts.length) 0 [] l.signs) l.texts k hlt)
    repeat' (first | (refine ACalls.start ?_; first | (refine ACalls.ofJi (impl_isText _) rfl ?_) | (refine ACalls.ofJi (lib_Contains_str (l.texts.take k) l.texts[k] (by simp; omega)) rfl ?_)) | (refine KV.run _ ?_) | (refine KT.run _ ?_) | (refine AWp.seqH fun KC => ?_) | (refine AWp.block ?_) | (refine AWp.region ?_) | (refine AWp.ret ?_) | (refine AWp.skip ?_) | (refine aops_callH rfl fun kC => ?_) | (refine AWp.condB ?_) | (simp only [bse, wk, tys, storeH_ptr, Nat.reduceEqDiff, ↓reduceIte, reduceCtorEq, Nat.reduceAdd, Nat.reduceLeDiff, Int.reduceBEq, Int.reduceLT, Int.reduceLE, Int.reduceEq, ne_eq, not_false_eq_true, Nat.reduceMul, signE_val, signE_sz, ledgerE_val, ledgerE_sz, *]) | (refine condK_bool (fun hb => ?_) (fun hb => ?_) <;> ((try simp only [Bool.not_eq_true', Bool.not_eq_false'] at hb) <;> (try (have hbe := of_decide_eq_true hb)) <;> (try (have hbe := eq_of_beq hb)))))
    all_goals first
      | (refine hJ.out _ _ ⟨l.texts.length - (k + 1), by omega, k + 1, _, by omega, rfl, rfl, rfl, ?_⟩ (by repeat (first | exact Agree.refl _ _ | assumption | refine Agree.put ?_ rfl _)); unfold Hid; rw [hs.out]; (first | rfl | (simp only [txF, bse, wk, tys, storeH_ptr, Nat.reduceEqDiff, ↓reduceIte, reduceCtorEq, Nat.reduceAdd, Nat.reduceLeDiff, Int.reduceBEq, Int.reduceLT, Int.reduceLE, Int.reduceEq, ne_eq, not_false_eq_true, Nat.reduceMul, signE_val, signE_sz, ledgerE_val, ledgerE_sz, if_true, if_false, ite_true, ite_false, Bool.false_eq_true, *]; done) | (simp [txF, *]; done) | (simp_all [txF]; done) | (simp_all [txF]; (repeat' split) <;> first | rfl | omega)))
      | (rw [hs.out]; (first | rfl | (simp only [txF, bse, wk, tys, storeH_ptr, Nat.reduceEqDiff, ↓reduceIte, reduceCtorEq, Nat.reduceAdd, Nat.reduceLeDiff, Int.reduceBEq, Int.reduceLT, Int.reduceLE, Int.reduceEq, ne_eq, not_false_eq_true, Nat.reduceMul, signE_val, signE_sz, ledgerE_val, ledgerE_sz, if_true, if_false, ite_true, ite_false, Bool.false_eq_true, *]; done) | (simp [txF, *]; done) | (simp_all [txF]; done) | (simp_all [txF]; (repeat' split) <;> first | rfl | omega)))
  · have hlt' : ¬ (k : Int) < (l.texts.length : Int) := by omega
    have hs : Hid _ := hF.out.trans (scanK_end (txF) (scanK (sgF l.texts.length) 0 [] l.signs) l.texts k hlt)
    clear hF
    repeat' (first | (refine KT.run _ ?_) | (refine AWp.seqH fun KC => ?_) | (refine AWp.block ?_) | (refine AWp.region ?_) | (refine AWp.exit ?_) | (refine AWp.condB ?_) | (simp only [bse, wk, tys, storeH_ptr, Nat.reduceEqDiff, ↓reduceIte, reduceCtorEq, Nat.reduceAdd, Nat.reduceLeDiff, Int.reduceBEq, Int.reduceLT, Int.reduceLE, Int.reduceEq, ne_eq, not_false_eq_true, Nat.reduceMul, signE_val, signE_sz, ledgerE_val, ledgerE_sz, *]))
    
    have hV1 : Hid (ledgerFault l = scanK (sgF l.texts.length) (0) [] l.signs) := by exact hs.out
    refine AWp.loopH [39, 40, 41, 42, 6, 5, 43, 44, 45, 46, 47, 48, 49, 50, 51, 52, 53, 54, 55, 2, 56, 57, 58, 59, 60, 61, 62, 38] (fun m e' H' => ∃ (k : Nat) (G : AH), k ≤ l.signs.length ∧ m = l.signs.length - k ∧ e' 38 = .int .i64 k ∧ H' = _ :: G ∧ Hid (ledgerFault l = scanK (sgF l.texts.length) (0) (l.signs.take k) (l.signs.drop k))) l.signs.length ⟨0, _, by omega, by omega, rfl, rfl, hV1⟩ ?_
    rintro m e' H' hA1 ⟨k, G, hk, rfl, hix, rfl, hF⟩ hJ
    have hA := hA1
    have a1 := hA 1 rfl; have a36 := hA 36 rfl; have a37 := hA 37 rfl; try simp only [bse, wk, tys, storeH_ptr, Nat.reduceEqDiff, ↓reduceIte, reduceCtorEq, Nat.reduceAdd, Nat.reduceLeDiff, Int.reduceBEq, Int.reduceLT, Int.reduceLE, Int.reduceEq, ne_eq, not_false_eq_true, Nat.reduceMul] at a1 a36 a37; clear hA
    by_cases hlt : k < l.signs.length
    · have hlt' : (k : Int) < (l.signs.length : Int) := by omega
      have hw := wr_succ (k := k) (by omega)
      have hs : Hid _ := hF.out.trans (scanK_step (sgF l.texts.length) (0) l.signs k hlt)
      repeat' (first | (refine AWp.quiet (id := 16) (by kernel_rfl) (by kernel_rfl) ?_) | (refine ACalls.start ?_; first | (refine ACalls.ofJi (impl_isKey _) rfl ?_) | (refine ACalls.ofJi (impl_within _ _ _) rfl ?_)) | (refine qcall_start ?_; first | (refine qcallFi (lib_Contains_Sign (l.signs.take k) l.signs[k] (by simp; omega)) rfl ?_ ?_; (focus ((first | exact rfl | (simp [pureV, flatV, signE_val, signE_sz, ledgerE_val, ledgerE_sz]; done)))))) | (refine KV.run _ ?_) | (refine KQ.run _ ?_) | (refine KT.run _ ?_) | (refine AWp.seqH fun KC => ?_) | (refine AWp.block ?_) | (refine AWp.region ?_) | (refine AWp.ret ?_) | (refine AWp.skip ?_) | (refine aops_callH rfl fun kC => ?_) | (refine qops_callH rfl fun kC => ?_) | (refine AWp.condB ?_) | (simp only [bse, wk, tys, storeH_ptr, Nat.reduceEqDiff, ↓reduceIte, reduceCtorEq, Nat.reduceAdd, Nat.reduceLeDiff, Int.reduceBEq, Int.reduceLT, Int.reduceLE, Int.reduceEq, ne_eq, not_false_eq_true, Nat.reduceMul, signE_val, signE_sz, ledgerE_val, ledgerE_sz, *]) | (refine condK_bool (fun hb => ?_) (fun hb => ?_) <;> ((try simp only [Bool.not_eq_true', Bool.not_eq_false'] at hb) <;> (try (have hbe := of_decide_eq_true hb)) <;> (try (have hbe := eq_of_beq hb)))) | (refine aops_partB ?_))
      all_goals first
        | (refine hJ.out _ _ ⟨l.signs.length - (k + 1), by omega, k + 1, _, by omega, rfl, rfl, rfl, ?_⟩ (by repeat (first | exact Agree.refl _ _ | assumption | refine Agree.put ?_ rfl _)); unfold Hid; rw [hs.out]; (first | rfl | (simp only [sgF, bse, wk, tys, storeH_ptr, Nat.reduceEqDiff, ↓reduceIte, reduceCtorEq, Nat.reduceAdd, Nat.reduceLeDiff, Int.reduceBEq, Int.reduceLT, Int.reduceLE, Int.reduceEq, ne_eq, not_false_eq_true, Nat.reduceMul, signE_val, signE_sz, ledgerE_val, ledgerE_sz, if_true, if_false, ite_true, ite_false, Bool.false_eq_true, *]; done) | (simp [sgF, *]; done) | (simp_all [sgF]; done) | (simp_all [sgF]; (repeat' split) <;> first | rfl | omega)))
        | (rw [hs.out]; (first | rfl | (simp only [sgF, bse, wk, tys, storeH_ptr, Nat.reduceEqDiff, ↓reduceIte, reduceCtorEq, Nat.reduceAdd, Nat.reduceLeDiff, Int.reduceBEq, Int.reduceLT, Int.reduceLE, Int.reduceEq, ne_eq, not_false_eq_true, Nat.reduceMul, signE_val, signE_sz, ledgerE_val, ledgerE_sz, if_true, if_false, ite_true, ite_false, Bool.false_eq_true, *]; done) | (simp [sgF, *]; done) | (simp_all [sgF]; done) | (simp_all [sgF]; (repeat' split) <;> first | rfl | omega)))
    · have hlt' : ¬ (k : Int) < (l.signs.length : Int) := by omega
      have hs : Hid _ := hF.out.trans (scanK_end (sgF l.texts.length) (0) l.signs k hlt)
      clear hF
      repeat' (first | (refine KT.run _ ?_) | (refine AWp.seqH fun KC => ?_) | (refine AWp.region ?_) | (refine AWp.ret ?_) | (refine AWp.exit ?_) | (refine AWp.condB ?_) | (simp only [bse, wk, tys, storeH_ptr, Nat.reduceEqDiff, ↓reduceIte, reduceCtorEq, Nat.reduceAdd, Nat.reduceLeDiff, Int.reduceBEq, Int.reduceLT, Int.reduceLE, Int.reduceEq, ne_eq, not_false_eq_true, Nat.reduceMul, signE_val, signE_sz, ledgerE_val, ledgerE_sz, *]))
      rw [hs.out]
theorem spec_l1Fault (l : TLedger) (h1 : l.texts.length ≤ 1048576) (h2 : l.signs.length ≤ 1048576) : PCalls Tryz.prog 39 [ip [islE strE l.texts, islE signE l.signs]] (.int .i64 (ledgerFault l)) := by
  refine PCalls.flat rfl ?_; refine ACalls.enter (n := 113) (rs := [.tmp 2]) Tryz.func39 rfl rfl rfl (by kernel_rfl) (by kernel_rfl) (by kernel_rfl) (Nat.le_of_ble_eq_true rfl) ?_
  repeat' (first | (refine KT.run _ ?_) | (refine AWp.seqH fun KC => ?_) | (refine AWp.block ?_) | (refine AWp.region ?_) | (refine AWp.ret ?_) | (refine AWp.skip ?_) | (refine AWp.condB ?_) | (simp only [bse, wk, tys, storeH_ptr, Nat.reduceEqDiff, ↓reduceIte, reduceCtorEq, Nat.reduceAdd, Nat.reduceLeDiff, Int.reduceBEq, Int.reduceLT, Int.reduceLE, Int.reduceEq, ne_eq, not_false_eq_true, Nat.reduceMul, signE_val, signE_sz, ledgerE_val, ledgerE_sz, *]) | (refine condK_bool (fun hb => ?_) (fun hb => ?_) <;> ((try simp only [Bool.not_eq_true', Bool.not_eq_false'] at hb) <;> (try (have hbe := of_decide_eq_true hb)) <;> (try (have hbe := eq_of_beq hb)))) | (refine aops_partB ?_))
  all_goals try (first | rfl | (simp only [ledgerFault, bse, wk, tys, storeH_ptr, Nat.reduceEqDiff, ↓reduceIte, reduceCtorEq, Nat.reduceAdd, Nat.reduceLeDiff, Int.reduceBEq, Int.reduceLT, Int.reduceLE, Int.reduceEq, ne_eq, not_false_eq_true, Nat.reduceMul, signE_val, signE_sz, ledgerE_val, ledgerE_sz, if_true, if_false, ite_true, ite_false, Bool.false_eq_true, *]; done) | (simp [ledgerFault, *]; done) | (simp_all [ledgerFault]; done) | (simp_all [ledgerFault]; (repeat' split) <;> first | rfl | omega))
  have hV0 : Hid (ledgerFault l = scanK (txF) (scanK (sgF l.texts.length) 0 [] l.signs) [] l.texts) := by unfold Hid; (first | rfl | (simp only [ledgerFault, bse, wk, tys, storeH_ptr, Nat.reduceEqDiff, ↓reduceIte, reduceCtorEq, Nat.reduceAdd, Nat.reduceLeDiff, Int.reduceBEq, Int.reduceLT, Int.reduceLE, Int.reduceEq, ne_eq, not_false_eq_true, Nat.reduceMul, signE_val, signE_sz, ledgerE_val, ledgerE_sz, if_true, if_false, ite_true, ite_false, Bool.false_eq_true, *]; done) | (simp [ledgerFault, *]; done) | (simp_all [ledgerFault]; done) | (simp_all [ledgerFault]; (repeat' split) <;> first | rfl | omega))
  refine AWp.loopH [19, 20, 21, 22, 23, 24, 25, 28, 29, 30, 31, 32, 33, 34, 35, 36, 37, 38, 39, 40, 41, 42, 43, 44, 45, 46, 47, 2, 48, 49, 50, 51, 52, 53, 54, 55, 56, 57, 58, 59, 60, 61, 62, 26, 27, 3] (fun m e' H' => ∃ (k : Nat) (G : AH), k ≤ l.texts.length ∧ m = l.texts.length - k ∧ e' 3 = .int .i64 k ∧ H' = G ∧ Hid (ledgerFault l = scanK (txF) (scanK (sgF l.texts.length) 0 [] l.signs) (l.texts.take k) (l.texts.drop k))) l.texts.length ⟨0, [], by omega, by omega, rfl, rfl, hV0⟩ ?_
  rintro m e' H' hA0 ⟨k, G, hk, rfl, hix, rfl, hF⟩ hJ
  have hA := hA0
  have a0 := hA 0 rfl; try simp only [bse, wk, tys, storeH_ptr, Nat.reduceEqDiff, ↓reduceIte, reduceCtorEq, Nat.reduceAdd, Nat.reduceLeDiff, Int.reduceBEq, Int.reduceLT, Int.reduceLE, Int.reduceEq, ne_eq, not_false_eq_true, Nat.reduceMul] at a0; clear hA
  by_cases hlt : k < l.texts.length
  · have hlt' : (k : Int) < (l.texts.length : Int) := by omega
    have hw := wr_succ (k := k) (by omega)
    have hs : Hid _ := hF.out.trans (scanK_step (txF) (scanK (sgF l.texts.length) 0 [] l.signs) l.texts k hlt)
    have hz := any_findI (fun y => y == l.texts[k]) (l.texts.take k)
    all_goals repeat' (first | (refine AWp.quiet (id := 8) (by kernel_rfl) (by kernel_rfl) ?_) | (refine qcall_start ?_; first | (refine qcallFi (spec_l1At (l.texts.take k) l.texts[k] (by simp; omega)) rfl ?_ ?_; (focus ((first | exact rfl | (simp [pureV, flatV, signE_val, signE_sz, ledgerE_val, ledgerE_sz]; done)))))) | (refine KQ.run _ ?_) | (refine KT.run _ ?_) | (refine AWp.seqH fun KC => ?_) | (refine AWp.block ?_) | (refine AWp.region ?_) | (refine AWp.ret ?_) | (refine AWp.skip ?_) | (refine qops_callH rfl fun kC => ?_) | (refine AWp.condB ?_) | (simp only [bse, wk, tys, storeH_ptr, Nat.reduceEqDiff, ↓reduceIte, reduceCtorEq, Nat.reduceAdd, Nat.reduceLeDiff, Int.reduceBEq, Int.reduceLT, Int.reduceLE, Int.reduceEq, ne_eq, not_false_eq_true, Nat.reduceMul, signE_val, signE_sz, ledgerE_val, ledgerE_sz, *]) | (refine condK_bool (fun hb => ?_) (fun hb => ?_) <;> ((try simp only [Bool.not_eq_true', Bool.not_eq_false'] at hb) <;> (try (have hbe := of_decide_eq_true hb)) <;> (try (have hbe := eq_of_beq hb)))) | (refine aops_partB ?_))
    all_goals first
      | (refine hJ.out _ _ ⟨l.texts.length - (k + 1), by omega, k + 1, _, by omega, rfl, rfl, rfl, ?_⟩ (by repeat (first | exact Agree.refl _ _ | assumption | refine Agree.put ?_ rfl _)); unfold Hid; rw [hs.out]; (first | rfl | (simp only [txF, textB_eq, ← any_swapS, bse, wk, tys, storeH_ptr, Nat.reduceEqDiff, ↓reduceIte, reduceCtorEq, Nat.reduceAdd, Nat.reduceLeDiff, Int.reduceBEq, Int.reduceLT, Int.reduceLE, Int.reduceEq, ne_eq, not_false_eq_true, Nat.reduceMul, signE_val, signE_sz, ledgerE_val, ledgerE_sz, if_true, if_false, ite_true, ite_false, Bool.false_eq_true, *]; done) | (simp [txF, textB_eq, ← any_swapS, *]; done) | (simp_all [txF, textB_eq, ← any_swapS]; done) | (simp_all [txF, textB_eq, ← any_swapS]; (repeat' split) <;> first | rfl | omega)))
      | (rw [hs.out]; (first | rfl | (simp only [txF, textB_eq, ← any_swapS, bse, wk, tys, storeH_ptr, Nat.reduceEqDiff, ↓reduceIte, reduceCtorEq, Nat.reduceAdd, Nat.reduceLeDiff, Int.reduceBEq, Int.reduceLT, Int.reduceLE, Int.reduceEq, ne_eq, not_false_eq_true, Nat.reduceMul, signE_val, signE_sz, ledgerE_val, ledgerE_sz, if_true, if_false, ite_true, ite_false, Bool.false_eq_true, *]; done) | (simp [txF, textB_eq, ← any_swapS, *]; done) | (simp_all [txF, textB_eq, ← any_swapS]; done) | (simp_all [txF, textB_eq, ← any_swapS]; (repeat' split) <;> first | rfl | omega)))
  · have hlt' : ¬ (k : Int) < (l.texts.length : Int) := by omega
    have hs : Hid _ := hF.out.trans (scanK_end (txF) (scanK (sgF l.texts.length) 0 [] l.signs) l.texts k hlt)
    clear hF
    repeat' (first | (refine KT.run _ ?_) | (refine AWp.seqH fun KC => ?_) | (refine AWp.block ?_) | (refine AWp.region ?_) | (refine AWp.exit ?_) | (refine AWp.condB ?_) | (simp only [bse, wk, tys, storeH_ptr, Nat.reduceEqDiff, ↓reduceIte, reduceCtorEq, Nat.reduceAdd, Nat.reduceLeDiff, Int.reduceBEq, Int.reduceLT, Int.reduceLE, Int.reduceEq, ne_eq, not_false_eq_true, Nat.reduceMul, signE_val, signE_sz, ledgerE_val, ledgerE_sz, *]))
    
    have hV1 : Hid (ledgerFault l = scanK (sgF l.texts.length) (0) [] l.signs) := by exact hs.out
    refine AWp.loopH [63, 64, 65, 66, 67, 68, 69, 72, 73, 74, 75, 76, 77, 78, 79, 80, 81, 82, 83, 84, 85, 86, 87, 88, 89, 90, 91, 92, 93, 94, 95, 96, 97, 98, 2, 99, 100, 101, 102, 103, 104, 105, 106, 107, 108, 109, 110, 111, 112, 70, 71, 4] (fun m e' H' => ∃ (k : Nat) (G : AH), k ≤ l.signs.length ∧ m = l.signs.length - k ∧ e' 4 = .int .i64 k ∧ H' = G ∧ Hid (ledgerFault l = scanK (sgF l.texts.length) (0) (l.signs.take k) (l.signs.drop k))) l.signs.length ⟨0, _, by omega, by omega, rfl, rfl, hV1⟩ ?_
    rintro m e' H' hA1 ⟨k, G, hk, rfl, hix, rfl, hF⟩ hJ
    have hA := hA1
    have a0 := hA 0 rfl; try simp only [bse, wk, tys, storeH_ptr, Nat.reduceEqDiff, ↓reduceIte, reduceCtorEq, Nat.reduceAdd, Nat.reduceLeDiff, Int.reduceBEq, Int.reduceLT, Int.reduceLE, Int.reduceEq, ne_eq, not_false_eq_true, Nat.reduceMul] at a0; clear hA
    by_cases hlt : k < l.signs.length
    · have hlt' : (k : Int) < (l.signs.length : Int) := by omega
      have hw := wr_succ (k := k) (by omega)
      have hs : Hid _ := hF.out.trans (scanK_step (sgF l.texts.length) (0) l.signs k hlt)
      repeat' (first | (refine AWp.quiet (id := 13) (by kernel_rfl) (by kernel_rfl) ?_) | (refine AWp.quiet (id := 15) (by kernel_rfl) (by kernel_rfl) ?_) | (refine qcall_start ?_; first | (refine qcallFi (spec_l1Key _) rfl ?_ ?_; (focus ((first | exact rfl | (simp [pureV, flatV, signE_val, signE_sz, ledgerE_val, ledgerE_sz]; done))))) | (refine qcallFi (spec_l1In _ _ _) rfl ?_ ?_; (focus ((first | exact rfl | (simp [pureV, flatV, signE_val, signE_sz, ledgerE_val, ledgerE_sz]; done))))) | (refine qcallFi (spec_l1Signed (l.signs.take k) l.signs[k] (by simp; omega)) rfl ?_ ?_; (focus ((first | exact rfl | (simp [pureV, flatV, signE_val, signE_sz, ledgerE_val, ledgerE_sz]; done)))))) | (refine KQ.run _ ?_) | (refine KT.run _ ?_) | (refine AWp.seqH fun KC => ?_) | (refine AWp.block ?_) | (refine AWp.region ?_) | (refine AWp.ret ?_) | (refine AWp.skip ?_) | (refine qops_callH rfl fun kC => ?_) | (refine AWp.condB ?_) | (simp only [bse, wk, tys, storeH_ptr, Nat.reduceEqDiff, ↓reduceIte, reduceCtorEq, Nat.reduceAdd, Nat.reduceLeDiff, Int.reduceBEq, Int.reduceLT, Int.reduceLE, Int.reduceEq, ne_eq, not_false_eq_true, Nat.reduceMul, signE_val, signE_sz, ledgerE_val, ledgerE_sz, *]) | (refine condK_bool (fun hb => ?_) (fun hb => ?_) <;> ((try simp only [Bool.not_eq_true', Bool.not_eq_false'] at hb) <;> (try (have hbe := of_decide_eq_true hb)) <;> (try (have hbe := eq_of_beq hb)))) | (refine qops_partB ?_))
      all_goals first
        | (refine hJ.out _ _ ⟨l.signs.length - (k + 1), by omega, k + 1, _, by omega, rfl, rfl, rfl, ?_⟩ (by repeat (first | exact Agree.refl _ _ | assumption | refine Agree.put ?_ rfl _)); unfold Hid; rw [hs.out]; (first | rfl | (simp only [sgF, ← any_swapG, bse, wk, tys, storeH_ptr, Nat.reduceEqDiff, ↓reduceIte, reduceCtorEq, Nat.reduceAdd, Nat.reduceLeDiff, Int.reduceBEq, Int.reduceLT, Int.reduceLE, Int.reduceEq, ne_eq, not_false_eq_true, Nat.reduceMul, signE_val, signE_sz, ledgerE_val, ledgerE_sz, if_true, if_false, ite_true, ite_false, Bool.false_eq_true, *]; done) | (simp [sgF, ← any_swapG, *]; done) | (simp_all [sgF, ← any_swapG]; done) | (simp_all [sgF, ← any_swapG]; (repeat' split) <;> first | rfl | omega)))
        | (rw [hs.out]; (first | rfl | (simp only [sgF, ← any_swapG, bse, wk, tys, storeH_ptr, Nat.reduceEqDiff, ↓reduceIte, reduceCtorEq, Nat.reduceAdd, Nat.reduceLeDiff, Int.reduceBEq, Int.reduceLT, Int.reduceLE, Int.reduceEq, ne_eq, not_false_eq_true, Nat.reduceMul, signE_val, signE_sz, ledgerE_val, ledgerE_sz, if_true, if_false, ite_true, ite_false, Bool.false_eq_true, *]; done) | (simp [sgF, ← any_swapG, *]; done) | (simp_all [sgF, ← any_swapG]; done) | (simp_all [sgF, ← any_swapG]; (repeat' split) <;> first | rfl | omega)))
    · have hlt' : ¬ (k : Int) < (l.signs.length : Int) := by omega
      have hs : Hid _ := hF.out.trans (scanK_end (sgF l.texts.length) (0) l.signs k hlt)
      clear hF
      repeat' (first | (refine KT.run _ ?_) | (refine AWp.seqH fun KC => ?_) | (refine AWp.region ?_) | (refine AWp.ret ?_) | (refine AWp.exit ?_) | (refine AWp.condB ?_) | (simp only [bse, wk, tys, storeH_ptr, Nat.reduceEqDiff, ↓reduceIte, reduceCtorEq, Nat.reduceAdd, Nat.reduceLeDiff, Int.reduceBEq, Int.reduceLT, Int.reduceLE, Int.reduceEq, ne_eq, not_false_eq_true, Nat.reduceMul, signE_val, signE_sz, ledgerE_val, ledgerE_sz, *]))
      rw [hs.out]
end Go.BM
/- Data: flat structs, their slices. -/
set_option linter.unusedVariables false
set_option linter.unusedSimpArgs false
set_option maxRecDepth 100000
set_option maxHeartbeats 4000000
namespace Go.BM
open Go.Proofs Go.RowKit
attribute [local irreducible] ACalls AWp aops qops optK optP cK gateA condK mops qcallK PCalls loadV fldV idxV lenV slV storeH binS

theorem laws_markInt64S (B : Nat) (H : AH) (r n ver el sz : Nat) (cs : List Value) (o : Bool) (sp : Option Nat) (k : Int) (hb : H[r]? = some ⟨el, sz, cs, ver, o⟩) (hl : cs.length = n) (ho : n ≠ 0 → o = true) (hB : B ≤ r) (hk : 0 ≤ k) (hk2 : k ≤ 1000000000000000) (hn : n ≤ 1048576) :
    ACalls Tryz.prog B 53 [.slice (some ⟨r, 0, sp⟩) n ver, .int .i64 k] H fun d H' => d = .int .i64 (k + (n : Nat)) ∧ H' = H.set r ⟨el, sz, marksC k (n), ver, o⟩ := by
  have hr := lt_of_some hb
  refine ACalls.enter (n := 19) (rs := [.tmp 4]) Tryz.func53 rfl rfl rfl (by kernel_rfl) (by kernel_rfl) (by kernel_rfl) (Nat.le_of_ble_eq_true rfl) ?_
  repeat' (first | (refine KT.run _ ?_) | (refine AWp.seqH fun KC => ?_) | (refine AWp.block ?_) | (refine AWp.region ?_) | (simp only [bse, wk, tys, storeH_ptr, Nat.reduceEqDiff, ↓reduceIte, reduceCtorEq, Nat.reduceAdd, Nat.reduceLeDiff, Int.reduceBEq, Int.reduceLT, Int.reduceLE, Int.reduceEq, ne_eq, not_false_eq_true, Nat.reduceMul, *]))
  refine AWp.loopH [6, 7, 8, 9, 12, 13, 14, 15, 16, 17, 1, 10, 11, 5] (fun m e' H' => ∃ j : Nat, j ≤ n ∧ m = n - j ∧ e' 5 = .int .i64 j ∧ e' 1 = .int .i64 (k + (j : Nat)) ∧ H' = H.set r ⟨el, sz, marksC k (j) ++ cs.drop (j), ver, o⟩) n ⟨0, by omega, by omega, rfl, by simp [put, env0], by simp [marksC]; exact (set_same hb).symm⟩ ?_
  rintro m e' H' hA ⟨j, hj, rfl, h5, h1, rfl⟩ hJ
  have a0 := hA 0 rfl; have a4 := hA 4 rfl; try simp only [bse, wk, tys, storeH_ptr, Nat.reduceEqDiff, ↓reduceIte, reduceCtorEq, Nat.reduceAdd, Nat.reduceLeDiff, Int.reduceBEq, Int.reduceLT, Int.reduceLE, Int.reduceEq, ne_eq, not_false_eq_true, Nat.reduceMul] at a0 a4; clear hA
  by_cases hlt : j < n
  · have hlt' : (j : Int) < (n : Int) := by omega
    have hown : o = true := ho (by omega)
    subst hown
    have hg0 : (H.set r ⟨el, sz, marksC k (j) ++ cs.drop (j), ver, true⟩)[r]? = _ := List.getElem?_set_self hr
    have hs0 := mark_step (P := Tryz.prog) (B := B) (T := 2) (p := j) (k := k) (cs := cs) hg0 hB lay2 (by omega)
    rw [List.set_set] at hs0
    have hw0 : IntKind.i64.wrap (k + ((j : Nat) : Int) + 1) = k + ((j + 1 : Nat) : Int) := by rw [wr] <;> omega
    have hw := wr_succ (k := j) (by omega)
    repeat' (first | (refine KT.run _ ?_) | (refine AWp.seqH fun KC => ?_) | (refine AWp.block ?_) | (refine AWp.region ?_) | (refine AWp.skip ?_) | (refine AWp.condB ?_) | (simp only [bse, wk, tys, Nat.reduceEqDiff, ↓reduceIte, reduceCtorEq, Nat.reduceAdd, Nat.reduceLeDiff, Int.reduceBEq, Int.reduceLT, Int.reduceLE, Int.reduceEq, ne_eq, not_false_eq_true, Nat.reduceMul, *]))
    exact hJ.out _ _ ⟨n - (j + 1), by omega, j + 1, by omega, rfl, rfl, by simp only [put, if_true, if_false, reduceCtorEq, Nat.reduceEqDiff], rfl⟩ (by repeat (first | exact Agree.refl _ _ | assumption | refine Agree.put ?_ rfl _))
  · have hlt' : ¬ (j : Int) < (n : Int) := by omega
    have : j = n := by omega
    subst this
    have hg : (H.set r ⟨el, sz, marksC k (j) ++ cs.drop (j), ver, o⟩)[r]? = some ⟨el, sz, marksC k (j) ++ cs.drop (j), ver, o⟩ := List.getElem?_set_self hr
    have hd : cs.drop (j) = [] := List.drop_eq_nil_of_le (by omega)
    rw [hd, List.append_nil] at hg
    repeat' (first | (refine KT.run _ ?_) | (refine AWp.seqH fun KC => ?_) | (refine AWp.region ?_) | (refine AWp.ret ?_) | (refine AWp.exit ?_) | (refine AWp.condB ?_) | (simp only [bse, wk, tys, storeH_ptr, Nat.reduceEqDiff, ↓reduceIte, reduceCtorEq, Nat.reduceAdd, Nat.reduceLeDiff, Int.reduceBEq, Int.reduceLT, Int.reduceLE, Int.reduceEq, ne_eq, not_false_eq_true, Nat.reduceMul, *]))
theorem laws_heldInt64S (n : Nat) (k : Int) (hk : 0 ≤ k) (hk2 : k ≤ 1000000000000000) (hn : n ≤ 1048576) :
    PCalls Tryz.prog 54 [isl n (marksC k (n)), .int .i64 k] (.int .i64 (k + (n : Nat))) := by
  have hlen := lenV_isl (P := Tryz.prog) (H := []) (n := n) (cs := marksC k (n)) elZ27
  refine PCalls.flat rfl ?_; refine ACalls.enter (n := 21) (rs := [.tmp 4]) Tryz.func54 rfl rfl rfl (by kernel_rfl) (by kernel_rfl) (by kernel_rfl) (Nat.le_of_ble_eq_true rfl) ?_
  repeat' (first | (refine KT.run _ ?_) | (refine AWp.seqH fun KC => ?_) | (refine AWp.block ?_) | (refine AWp.region ?_) | (simp only [bse, wk, tys, storeH_ptr, Nat.reduceEqDiff, ↓reduceIte, reduceCtorEq, Nat.reduceAdd, Nat.reduceLeDiff, Int.reduceBEq, Int.reduceLT, Int.reduceLE, Int.reduceEq, ne_eq, not_false_eq_true, Nat.reduceMul, *]))
  refine AWp.loopH [6, 7, 8, 9, 12, 13, 14, 15, 16, 17, 4, 18, 19, 1, 10, 11, 5] (fun m e' H' => ∃ j : Nat, j ≤ n ∧ m = n - j ∧ e' 5 = .int .i64 j ∧ e' 1 = .int .i64 (k + (j : Nat)) ∧ H' = []) n ⟨0, by omega, by omega, rfl, by simp [put, env0], rfl⟩ ?_
  rintro m e' H' hA ⟨j, hj, rfl, h5, h1, rfl⟩ hJ
  have a0 := hA 0 rfl; try simp only [bse, wk, tys, storeH_ptr, Nat.reduceEqDiff, ↓reduceIte, reduceCtorEq, Nat.reduceAdd, Nat.reduceLeDiff, Int.reduceBEq, Int.reduceLT, Int.reduceLE, Int.reduceEq, ne_eq, not_false_eq_true, Nat.reduceMul] at a0; clear hA
  by_cases hlt : j < n
  · have hlt' : (j : Int) < (n : Int) := by omega
    have hi := idxV_isl (P := Tryz.prog) (H := []) (n := n) (kd := .i64) (cs := marksC k (n)) elZ27 hlt
    have hv0 : (marksC k (n))[j]? = some (.int .i64 (k + (j : Nat))) := marksC_get k (by omega)
    have hl0 := load_ip1 (P := Tryz.prog) (H := []) (T := 2) (p := j) lay2 hv0
    have hw0 : IntKind.i64.wrap (k + ((j : Nat) : Int) + 1) = k + ((j + 1 : Nat) : Int) := by rw [wr] <;> omega
    have hw := wr_succ (k := j) (by omega)
    repeat' (first | (refine KT.run _ ?_) | (refine AWp.seqH fun KC => ?_) | (refine AWp.block ?_) | (refine AWp.region ?_) | (refine AWp.skip ?_) | (refine AWp.condB ?_) | (simp only [bse, wk, tys, storeH_ptr, Nat.reduceEqDiff, ↓reduceIte, reduceCtorEq, Nat.reduceAdd, Nat.reduceLeDiff, Int.reduceBEq, Int.reduceLT, Int.reduceLE, Int.reduceEq, ne_eq, not_false_eq_true, Nat.reduceMul, *]))
    exact hJ.out _ _ ⟨n - (j + 1), by omega, j + 1, by omega, rfl, rfl, by simp only [put, if_true, if_false, reduceCtorEq, Nat.reduceEqDiff], rfl⟩ (by repeat (first | exact Agree.refl _ _ | assumption | refine Agree.put ?_ rfl _))
  · have hlt' : ¬ (j : Int) < (n : Int) := by omega
    have : j = n := by omega
    subst this
    repeat' (first | (refine KT.run _ ?_) | (refine AWp.seqH fun KC => ?_) | (refine AWp.region ?_) | (refine AWp.ret ?_) | (refine AWp.exit ?_) | (refine AWp.condB ?_) | (simp only [bse, wk, tys, storeH_ptr, Nat.reduceEqDiff, ↓reduceIte, reduceCtorEq, Nat.reduceAdd, Nat.reduceLeDiff, Int.reduceBEq, Int.reduceLT, Int.reduceLE, Int.reduceEq, ne_eq, not_false_eq_true, Nat.reduceMul, *]))


end Go.BM
/- The text of a mark. -/
set_option linter.unusedVariables false
set_option linter.unusedSimpArgs false
set_option maxRecDepth 100000
set_option maxHeartbeats 4000000
namespace Go.BM
open Go.Proofs Go.RowKit
attribute [local irreducible] ACalls AWp aops qops optK optP cK gateA condK mops qcallK PCalls loadV fldV idxV lenV slV storeH binS
theorem laws_markText (k : Int) (hk : k ≤ 9000000000000000000) : PCalls Tryz.prog 52 [.int .i64 k] (.string (mt k)) := by
  unfold mt
  by_cases h0 : k ≤ 0
  · rw [if_pos h0]
    refine PCalls.flat rfl ?_; refine ACalls.enter (n := 20) (rs := [.tmp 2]) Tryz.func52 rfl rfl rfl (by kernel_rfl) (by kernel_rfl) (by kernel_rfl) (Nat.le_of_ble_eq_true rfl) ?_
    repeat' (first | (refine KT.run _ ?_) | (refine AWp.seqH fun KC => ?_) | (refine AWp.region ?_) | (refine AWp.ret ?_) | (refine AWp.condB ?_) | (simp only [bse, wk, tys, storeH_ptr, Nat.reduceEqDiff, ↓reduceIte, reduceCtorEq, Nat.reduceAdd, Nat.reduceLeDiff, Int.reduceBEq, Int.reduceLT, Int.reduceLE, Int.reduceEq, ne_eq, not_false_eq_true, Nat.reduceMul, *]))
  rw [if_neg h0]
  obtain ⟨n0, rfl⟩ : ∃ n : Nat, k = n := ⟨k.toNat, by omega⟩
  rw [Int.toNat_natCast]
  refine PCalls.flat rfl ?_; refine ACalls.enter (n := 20) (rs := [.tmp 2]) Tryz.func52 rfl rfl rfl (by kernel_rfl) (by kernel_rfl) (by kernel_rfl) (Nat.le_of_ble_eq_true rfl) ?_
  repeat' (first | (refine KT.run _ ?_) | (refine AWp.seqH fun KC => ?_) | (refine AWp.block ?_) | (refine AWp.region ?_) | (refine AWp.skip ?_) | (refine AWp.condB ?_) | (simp only [bse, wk, tys, storeH_ptr, Nat.reduceEqDiff, ↓reduceIte, reduceCtorEq, Nat.reduceAdd, Nat.reduceLeDiff, Int.reduceBEq, Int.reduceLT, Int.reduceLE, Int.reduceEq, ne_eq, not_false_eq_true, Nat.reduceMul, *]))
  refine AWp.loopH [6, 7, 8, 9, 10, 11, 12, 13, 14, 15, 3, 16, 17, 0] (fun m e' H' => ∃ (n : Nat) (out : List UInt8) (G : AH), m = n ∧ e' 0 = .int .i64 n ∧ e' 3 = .string (bs out) ∧ H' = G ∧ Hid (out.length + n ≤ n0) ∧ Hid (dgt n0 = dgt n ++ out)) n0 ⟨n0, [], [], rfl, rfl, rfl, rfl, by simp [Hid], by simp [Hid]⟩ ?_
  rintro n e' H' hA ⟨n', out, G, rfl, h0, h3, rfl, hl, hF⟩ hJ
  have a2 := hA 2 rfl; try simp only [bse, wk, tys, storeH_ptr, Nat.reduceEqDiff, ↓reduceIte, reduceCtorEq, Nat.reduceAdd, Nat.reduceLeDiff, Int.reduceBEq, Int.reduceLT, Int.reduceLE, Int.reduceEq, ne_eq, not_false_eq_true, Nat.reduceMul] at a2; clear hA
  have hl' := hl.out
  have hn0 : n0 ≤ 9000000000000000000 := by omega
  by_cases hp : 0 < n
  · have hp' : (0 : Int) < (n : Int) := by omega
    have hd := digit_u8 n
    have hq := quo10 (n := n) (by omega)
    have hs : 1 + out.length ≤ 9223372036854775807 := by omega
    repeat' (first | (refine KT.run _ ?_) | (refine AWp.seqH fun KC => ?_) | (refine AWp.block ?_) | (refine AWp.region ?_) | (refine AWp.skip ?_) | (refine AWp.condB ?_) | (simp only [bse, wk, tys, storeH_ptr, Nat.reduceEqDiff, ↓reduceIte, reduceCtorEq, Nat.reduceAdd, Nat.reduceLeDiff, Int.reduceBEq, Int.reduceLT, Int.reduceLE, Int.reduceEq, ne_eq, not_false_eq_true, Nat.reduceMul, *]))
    refine hJ.out _ _ ⟨n / 10, by omega, n / 10, [UInt8.ofNat (48 + n % 10)] ++ out, _, rfl, rfl, rfl, rfl, ?_, ?_⟩ (by repeat (first | exact Agree.refl _ _ | assumption | refine Agree.put ?_ rfl _))
    · unfold Hid; simp; omega
    · unfold Hid; rw [hF.out, dgt_pos hp]; simp
  · have hz : n = 0 := by omega
    have hp2 : ¬ (0 : Int) < (n : Int) := by omega
    subst hz
    have hF' : Hid (dgt n0 = out) := by unfold Hid; rw [hF.out, dgt_zero]; rfl
    have hs : 1 + out.length ≤ 9223372036854775807 := by omega
    repeat' (first | (refine KT.run _ ?_) | (refine AWp.seqH fun KC => ?_) | (refine AWp.region ?_) | (refine AWp.ret ?_) | (refine AWp.exit ?_) | (refine AWp.condB ?_) | (simp only [bse, wk, tys, storeH_ptr, Nat.reduceEqDiff, ↓reduceIte, reduceCtorEq, Nat.reduceAdd, Nat.reduceLeDiff, Int.reduceBEq, Int.reduceLT, Int.reduceLE, Int.reduceEq, ne_eq, not_false_eq_true, Nat.reduceMul, *]))
    rw [hF'.out]
end Go.BM
/- Data: flat structs, their slices. -/
set_option linter.unusedVariables false
set_option linter.unusedSimpArgs false
set_option maxRecDepth 100000
set_option maxHeartbeats 4000000
namespace Go.BM
open Go.Proofs Go.RowKit
attribute [local irreducible] ACalls AWp aops qops optK optP cK gateA condK mops qcallK PCalls loadV fldV idxV lenV slV storeH binS

theorem laws_markStringS (B : Nat) (H : AH) (r n ver el sz : Nat) (cs : List Value) (o : Bool) (sp : Option Nat) (k : Int) (hb : H[r]? = some ⟨el, sz, cs, ver, o⟩) (hl : cs.length = n) (ho : n ≠ 0 → o = true) (hB : B ≤ r) (hk : 0 ≤ k) (hk2 : k ≤ 1000000000000000) (hn : n ≤ 1048576) :
    ACalls Tryz.prog B 30 [.slice (some ⟨r, 0, sp⟩) n ver, .int .i64 k] H fun d H' => d = .int .i64 (k + (n : Nat)) ∧ H' = H.set r ⟨el, sz, marksS mt k (n), ver, o⟩ := by
  have hr := lt_of_some hb
  refine ACalls.enter (n := 20) (rs := [.tmp 4]) Tryz.func30 rfl rfl rfl (by kernel_rfl) (by kernel_rfl) (by kernel_rfl) (Nat.le_of_ble_eq_true rfl) ?_
  repeat' (first | (refine KT.run _ ?_) | (refine AWp.seqH fun KC => ?_) | (refine AWp.block ?_) | (refine AWp.region ?_) | (simp only [bse, wk, tys, storeH_ptr, Nat.reduceEqDiff, ↓reduceIte, reduceCtorEq, Nat.reduceAdd, Nat.reduceLeDiff, Int.reduceBEq, Int.reduceLT, Int.reduceLE, Int.reduceEq, ne_eq, not_false_eq_true, Nat.reduceMul, *]))
  refine AWp.loopH [6, 7, 8, 9, 12, 13, 14, 15, 16, 17, 18, 1, 10, 11, 5] (fun m e' H' => ∃ j : Nat, j ≤ n ∧ m = n - j ∧ e' 5 = .int .i64 j ∧ e' 1 = .int .i64 (k + (j : Nat)) ∧ H' = H.set r ⟨el, sz, marksS mt k (j) ++ cs.drop (j), ver, o⟩) n ⟨0, by omega, by omega, rfl, by simp [put, env0], by simp [marksS]; exact (set_same hb).symm⟩ ?_
  rintro m e' H' hA ⟨j, hj, rfl, h5, h1, rfl⟩ hJ
  have a0 := hA 0 rfl; have a4 := hA 4 rfl; try simp only [bse, wk, tys, storeH_ptr, Nat.reduceEqDiff, ↓reduceIte, reduceCtorEq, Nat.reduceAdd, Nat.reduceLeDiff, Int.reduceBEq, Int.reduceLT, Int.reduceLE, Int.reduceEq, ne_eq, not_false_eq_true, Nat.reduceMul] at a0 a4; clear hA
  by_cases hlt : j < n
  · have hlt' : (j : Int) < (n : Int) := by omega
    have hown : o = true := ho (by omega)
    subst hown
    have hg0 : (H.set r ⟨el, sz, marksS mt k (j) ++ cs.drop (j), ver, true⟩)[r]? = _ := List.getElem?_set_self hr
    have hs0 := markS_step (P := Tryz.prog) (B := B) (T := 9) (p := j) (k := k) (cs := cs) hg0 hB lay9 (by omega)
    rw [List.set_set] at hs0
    have hw0 : IntKind.i64.wrap (k + ((j : Nat) : Int) + 1) = k + ((j + 1 : Nat) : Int) := by rw [wr] <;> omega
    have hw := wr_succ (k := j) (by omega)
    repeat' (first | (refine ACalls.start ?_; first | (refine ACalls.ofJi (laws_markText _ (by omega)) rfl ?_)) | (refine KV.run _ ?_) | (refine KT.run _ ?_) | (refine AWp.seqH fun KC => ?_) | (refine AWp.block ?_) | (refine AWp.region ?_) | (refine AWp.skip ?_) | (refine aops_callH rfl fun kC => ?_) | (refine AWp.condB ?_) | (simp only [bse, wk, tys, Nat.reduceEqDiff, ↓reduceIte, reduceCtorEq, Nat.reduceAdd, Nat.reduceLeDiff, Int.reduceBEq, Int.reduceLT, Int.reduceLE, Int.reduceEq, ne_eq, not_false_eq_true, Nat.reduceMul, *]))
    exact hJ.out _ _ ⟨n - (j + 1), by omega, j + 1, by omega, rfl, rfl, by simp only [put, if_true, if_false, reduceCtorEq, Nat.reduceEqDiff], rfl⟩ (by repeat (first | exact Agree.refl _ _ | assumption | refine Agree.put ?_ rfl _))
  · have hlt' : ¬ (j : Int) < (n : Int) := by omega
    have : j = n := by omega
    subst this
    have hg : (H.set r ⟨el, sz, marksS mt k (j) ++ cs.drop (j), ver, o⟩)[r]? = some ⟨el, sz, marksS mt k (j) ++ cs.drop (j), ver, o⟩ := List.getElem?_set_self hr
    have hd : cs.drop (j) = [] := List.drop_eq_nil_of_le (by omega)
    rw [hd, List.append_nil] at hg
    repeat' (first | (refine KT.run _ ?_) | (refine AWp.seqH fun KC => ?_) | (refine AWp.region ?_) | (refine AWp.ret ?_) | (refine AWp.exit ?_) | (refine AWp.condB ?_) | (simp only [bse, wk, tys, storeH_ptr, Nat.reduceEqDiff, ↓reduceIte, reduceCtorEq, Nat.reduceAdd, Nat.reduceLeDiff, Int.reduceBEq, Int.reduceLT, Int.reduceLE, Int.reduceEq, ne_eq, not_false_eq_true, Nat.reduceMul, *]))
theorem laws_markSignS (B : Nat) (H : AH) (r n ver el sz : Nat) (cs : List Value) (o : Bool) (sp : Option Nat) (k : Int) (hb : H[r]? = some ⟨el, sz, cs, ver, o⟩) (hl : cs.length = n * 2) (ho : n ≠ 0 → o = true) (hB : B ≤ r) (hk : 0 ≤ k) (hk2 : k ≤ 1000000000000000) (hn : n ≤ 1048576) :
    ACalls Tryz.prog B 31 [.slice (some ⟨r, 0, sp⟩) n ver, .int .i64 k] H fun d H' => d = .int .i64 (k + (n * 2 : Nat)) ∧ H' = H.set r ⟨el, sz, marksC k (n * 2), ver, o⟩ := by
  have hr := lt_of_some hb
  refine ACalls.enter (n := 27) (rs := [.tmp 4]) Tryz.func31 rfl rfl rfl (by kernel_rfl) (by kernel_rfl) (by kernel_rfl) (Nat.le_of_ble_eq_true rfl) ?_
  repeat' (first | (refine KT.run _ ?_) | (refine AWp.seqH fun KC => ?_) | (refine AWp.block ?_) | (refine AWp.region ?_) | (simp only [bse, wk, tys, storeH_ptr, Nat.reduceEqDiff, ↓reduceIte, reduceCtorEq, Nat.reduceAdd, Nat.reduceLeDiff, Int.reduceBEq, Int.reduceLT, Int.reduceLE, Int.reduceEq, ne_eq, not_false_eq_true, Nat.reduceMul, *]))
  refine AWp.loopH [6, 7, 8, 9, 12, 13, 14, 15, 16, 17, 18, 1, 19, 20, 21, 22, 23, 24, 25, 10, 11, 5] (fun m e' H' => ∃ j : Nat, j ≤ n ∧ m = n - j ∧ e' 5 = .int .i64 j ∧ e' 1 = .int .i64 (k + (j * 2 : Nat)) ∧ H' = H.set r ⟨el, sz, marksC k (j * 2) ++ cs.drop (j * 2), ver, o⟩) n ⟨0, by omega, by omega, rfl, by simp [put, env0], by simp [marksC]; exact (set_same hb).symm⟩ ?_
  rintro m e' H' hA ⟨j, hj, rfl, h5, h1, rfl⟩ hJ
  have a0 := hA 0 rfl; have a4 := hA 4 rfl; try simp only [bse, wk, tys, storeH_ptr, Nat.reduceEqDiff, ↓reduceIte, reduceCtorEq, Nat.reduceAdd, Nat.reduceLeDiff, Int.reduceBEq, Int.reduceLT, Int.reduceLE, Int.reduceEq, ne_eq, not_false_eq_true, Nat.reduceMul] at a0 a4; clear hA
  by_cases hlt : j < n
  · have hlt' : (j : Int) < (n : Int) := by omega
    have hown : o = true := ho (by omega)
    subst hown
    have hg0 : (H.set r ⟨el, sz, marksC k (j * 2) ++ cs.drop (j * 2), ver, true⟩)[r]? = _ := List.getElem?_set_self hr
    have hs0 := mark_step (P := Tryz.prog) (B := B) (T := 2) (p := j * 2) (k := k) (cs := cs) hg0 hB lay2 (by omega)
    rw [List.set_set] at hs0
    have hw0 : IntKind.i64.wrap (k + ((j * 2 : Nat) : Int) + 1) = k + ((j * 2 + 1 : Nat) : Int) := by rw [wr] <;> omega
    have hg1 : (H.set r ⟨el, sz, marksC k (j * 2 + 1) ++ cs.drop (j * 2 + 1), ver, true⟩)[r]? = _ := List.getElem?_set_self hr
    have hs1 := mark_step (P := Tryz.prog) (B := B) (T := 2) (p := j * 2 + 1) (k := k) (cs := cs) hg1 hB lay2 (by omega)
    rw [List.set_set] at hs1
    have hw1 : IntKind.i64.wrap (k + ((j * 2 + 1 : Nat) : Int) + 1) = k + ((j * 2 + 1 + 1 : Nat) : Int) := by rw [wr] <;> omega
    have hw := wr_succ (k := j) (by omega)
    repeat' (first | (refine KT.run _ ?_) | (refine AWp.seqH fun KC => ?_) | (refine AWp.block ?_) | (refine AWp.region ?_) | (refine AWp.skip ?_) | (refine AWp.condB ?_) | (simp only [bse, wk, tys, Nat.reduceEqDiff, ↓reduceIte, reduceCtorEq, Nat.reduceAdd, Nat.reduceLeDiff, Int.reduceBEq, Int.reduceLT, Int.reduceLE, Int.reduceEq, ne_eq, not_false_eq_true, Nat.reduceMul, *]))
    exact hJ.out _ _ ⟨n - (j + 1), by omega, j + 1, by omega, rfl, rfl, by simp only [put, if_true, if_false, reduceCtorEq, Nat.reduceEqDiff]; rw [show (j + 1) * 2 = j * 2 + 1 + 1 by omega], by rw [show (j + 1) * 2 = j * 2 + 2 by omega]⟩ (by repeat (first | exact Agree.refl _ _ | assumption | refine Agree.put ?_ rfl _))
  · have hlt' : ¬ (j : Int) < (n : Int) := by omega
    have : j = n := by omega
    subst this
    have hg : (H.set r ⟨el, sz, marksC k (j * 2) ++ cs.drop (j * 2), ver, o⟩)[r]? = some ⟨el, sz, marksC k (j * 2) ++ cs.drop (j * 2), ver, o⟩ := List.getElem?_set_self hr
    have hd : cs.drop (j * 2) = [] := List.drop_eq_nil_of_le (by omega)
    rw [hd, List.append_nil] at hg
    repeat' (first | (refine KT.run _ ?_) | (refine AWp.seqH fun KC => ?_) | (refine AWp.region ?_) | (refine AWp.ret ?_) | (refine AWp.exit ?_) | (refine AWp.condB ?_) | (simp only [bse, wk, tys, storeH_ptr, Nat.reduceEqDiff, ↓reduceIte, reduceCtorEq, Nat.reduceAdd, Nat.reduceLeDiff, Int.reduceBEq, Int.reduceLT, Int.reduceLE, Int.reduceEq, ne_eq, not_false_eq_true, Nat.reduceMul, *]))
end Go.BM
/- Who owns what: slices and structs of the laws. -/
set_option linter.unusedVariables false
set_option linter.unusedSimpArgs false
set_option maxRecDepth 100000
set_option maxHeartbeats 4000000
namespace Go.BM
open Go.Proofs Go.RowKit
attribute [local irreducible] ACalls AWp aops qops optK optP cK gateA condK mops qcallK PCalls loadV fldV idxV lenV slV storeH binS
theorem laws_markInt64S0 (k : Int) : PCalls Tryz.prog 53 [islE intE [], .int .i64 k] (.int .i64 k) := by
  refine PCalls.flat rfl ?_; refine ACalls.enter (n := 19) (rs := [.tmp 4]) Tryz.func53 rfl rfl rfl (by kernel_rfl) (by kernel_rfl) (by kernel_rfl) (Nat.le_of_ble_eq_true rfl) ?_
  repeat' (first | (refine KT.run _ ?_) | (refine AWp.seqH fun KC => ?_) | (refine AWp.block ?_) | (refine AWp.region ?_) | (simp only [bse, wk, tys, storeH_ptr, Nat.reduceEqDiff, ↓reduceIte, reduceCtorEq, Nat.reduceAdd, Nat.reduceLeDiff, Int.reduceBEq, Int.reduceLT, Int.reduceLE, Int.reduceEq, ne_eq, not_false_eq_true, Nat.reduceMul, *]))
  refine AWp.loopH [6, 7, 8, 9, 12, 13, 14, 15, 16, 17, 1, 10, 11, 5] (fun m e' H' => e' 5 = .int .i64 0 ∧ e' 1 = .int .i64 k ∧ H' = []) 0 ⟨rfl, rfl, rfl⟩ ?_
  rintro m e' H' hA ⟨h5, h1, rfl⟩ hJ
  have a0 := hA 0 rfl; have a4 := hA 4 rfl; try simp only [bse, wk, tys, storeH_ptr, Nat.reduceEqDiff, ↓reduceIte, reduceCtorEq, Nat.reduceAdd, Nat.reduceLeDiff, Int.reduceBEq, Int.reduceLT, Int.reduceLE, Int.reduceEq, ne_eq, not_false_eq_true, Nat.reduceMul] at a0 a4; clear hA
  have h00 : ¬ (0 : Int) < ((0 : Nat) : Int) := by decide
  repeat' (first | (refine KT.run _ ?_) | (refine AWp.seqH fun KC => ?_) | (refine AWp.region ?_) | (refine AWp.ret ?_) | (refine AWp.exit ?_) | (refine AWp.condB ?_) | (simp only [bse, wk, tys, storeH_ptr, Nat.reduceEqDiff, ↓reduceIte, reduceCtorEq, Nat.reduceAdd, Nat.reduceLeDiff, Int.reduceBEq, Int.reduceLT, Int.reduceLE, Int.reduceEq, ne_eq, not_false_eq_true, Nat.reduceMul, *]))
theorem mk_Int64S (xs : List Int) (hn : xs.length ≤ 1048576) : MCalls Tryz.prog 53 54 (islE intE xs) (xs.length) := by
  have := MCalls.ofSl (P := Tryz.prog) (f := 53) (g := 54) (E := intE) (xs := xs) (mk := fun k n => marksC k n) (fun _ _ => marksC_len _ _) (fun k n => marksC_flat k n) (intE_flat xs) laws_markInt64S0
    (fun H r ver el sz cs sp k hb hl hk hk2 => by
      simp only [intE_sz, Nat.mul_one] at hl ⊢
      exact laws_markInt64S 0 H r xs.length ver el sz cs true sp k hb hl (fun _ => rfl) (Nat.zero_le _) hk hk2 hn)
    (fun k hk hk2 => by
      simp only [intE_sz, Nat.mul_one]
      exact laws_heldInt64S xs.length k hk hk2 hn)
  simpa only [intE_sz, Nat.mul_one] using this

theorem own_toStringS (xs : List ByteArray) (hn : xs.length ≤ 1048576) : NCalls Tryz.prog 23 [islE strE xs] (islE strE xs) :=
  (laws_toStringS_own [] xs hn).mono fun d H' ⟨h1, h2⟩ => by
    subst h1 h2
    exact OwnL.sl1 (strE_flat xs)
theorem laws_markStringS0 (k : Int) : PCalls Tryz.prog 30 [islE strE [], .int .i64 k] (.int .i64 k) := by
  refine PCalls.flat rfl ?_; refine ACalls.enter (n := 20) (rs := [.tmp 4]) Tryz.func30 rfl rfl rfl (by kernel_rfl) (by kernel_rfl) (by kernel_rfl) (Nat.le_of_ble_eq_true rfl) ?_
  repeat' (first | (refine KT.run _ ?_) | (refine AWp.seqH fun KC => ?_) | (refine AWp.block ?_) | (refine AWp.region ?_) | (simp only [bse, wk, tys, storeH_ptr, Nat.reduceEqDiff, ↓reduceIte, reduceCtorEq, Nat.reduceAdd, Nat.reduceLeDiff, Int.reduceBEq, Int.reduceLT, Int.reduceLE, Int.reduceEq, ne_eq, not_false_eq_true, Nat.reduceMul, *]))
  refine AWp.loopH [6, 7, 8, 9, 12, 13, 14, 15, 16, 17, 18, 1, 10, 11, 5] (fun m e' H' => e' 5 = .int .i64 0 ∧ e' 1 = .int .i64 k ∧ H' = []) 0 ⟨rfl, rfl, rfl⟩ ?_
  rintro m e' H' hA ⟨h5, h1, rfl⟩ hJ
  have a0 := hA 0 rfl; have a4 := hA 4 rfl; try simp only [bse, wk, tys, storeH_ptr, Nat.reduceEqDiff, ↓reduceIte, reduceCtorEq, Nat.reduceAdd, Nat.reduceLeDiff, Int.reduceBEq, Int.reduceLT, Int.reduceLE, Int.reduceEq, ne_eq, not_false_eq_true, Nat.reduceMul] at a0 a4; clear hA
  have h00 : ¬ (0 : Int) < ((0 : Nat) : Int) := by decide
  repeat' (first | (refine KT.run _ ?_) | (refine AWp.seqH fun KC => ?_) | (refine AWp.region ?_) | (refine AWp.ret ?_) | (refine AWp.exit ?_) | (refine AWp.condB ?_) | (simp only [bse, wk, tys, storeH_ptr, Nat.reduceEqDiff, ↓reduceIte, reduceCtorEq, Nat.reduceAdd, Nat.reduceLeDiff, Int.reduceBEq, Int.reduceLT, Int.reduceLE, Int.reduceEq, ne_eq, not_false_eq_true, Nat.reduceMul, *]))
theorem signE_flat (ys : List TSign) : ∀ c ∈ signE.flat ys, flatV c = true := flatE_of (fun y c hc => by simp [signE, cellsV] at hc; (repeat' (first | (rcases hc with rfl | hc; · exact rfl) | (subst hc; exact rfl)))) ys
theorem own_toSignS (xs : List TSign) (hn : xs.length ≤ 1048576) : NCalls Tryz.prog 24 [islE signE xs] (islE signE xs) :=
  (laws_toSignS_own [] xs hn).mono fun d H' ⟨h1, h2⟩ => by
    subst h1 h2
    exact OwnL.sl1 (signE_flat xs)
theorem laws_markSignS0 (k : Int) : PCalls Tryz.prog 31 [islE signE [], .int .i64 k] (.int .i64 k) := by
  refine PCalls.flat rfl ?_; refine ACalls.enter (n := 27) (rs := [.tmp 4]) Tryz.func31 rfl rfl rfl (by kernel_rfl) (by kernel_rfl) (by kernel_rfl) (Nat.le_of_ble_eq_true rfl) ?_
  repeat' (first | (refine KT.run _ ?_) | (refine AWp.seqH fun KC => ?_) | (refine AWp.block ?_) | (refine AWp.region ?_) | (simp only [bse, wk, tys, storeH_ptr, Nat.reduceEqDiff, ↓reduceIte, reduceCtorEq, Nat.reduceAdd, Nat.reduceLeDiff, Int.reduceBEq, Int.reduceLT, Int.reduceLE, Int.reduceEq, ne_eq, not_false_eq_true, Nat.reduceMul, *]))
  refine AWp.loopH [6, 7, 8, 9, 12, 13, 14, 15, 16, 17, 18, 1, 19, 20, 21, 22, 23, 24, 25, 10, 11, 5] (fun m e' H' => e' 5 = .int .i64 0 ∧ e' 1 = .int .i64 k ∧ H' = []) 0 ⟨rfl, rfl, rfl⟩ ?_
  rintro m e' H' hA ⟨h5, h1, rfl⟩ hJ
  have a0 := hA 0 rfl; have a4 := hA 4 rfl; try simp only [bse, wk, tys, storeH_ptr, Nat.reduceEqDiff, ↓reduceIte, reduceCtorEq, Nat.reduceAdd, Nat.reduceLeDiff, Int.reduceBEq, Int.reduceLT, Int.reduceLE, Int.reduceEq, ne_eq, not_false_eq_true, Nat.reduceMul] at a0 a4; clear hA
  have h00 : ¬ (0 : Int) < ((0 : Nat) : Int) := by decide
  repeat' (first | (refine KT.run _ ?_) | (refine AWp.seqH fun KC => ?_) | (refine AWp.region ?_) | (refine AWp.ret ?_) | (refine AWp.exit ?_) | (refine AWp.condB ?_) | (simp only [bse, wk, tys, storeH_ptr, Nat.reduceEqDiff, ↓reduceIte, reduceCtorEq, Nat.reduceAdd, Nat.reduceLeDiff, Int.reduceBEq, Int.reduceLT, Int.reduceLE, Int.reduceEq, ne_eq, not_false_eq_true, Nat.reduceMul, *]))
end Go.BM
/- Who owns what: slices and structs of the laws. -/
set_option linter.unusedVariables false
set_option linter.unusedSimpArgs false
set_option maxRecDepth 100000
set_option maxHeartbeats 4000000
namespace Go.BM
open Go.Proofs Go.RowKit
attribute [local irreducible] ACalls AWp aops qops optK optP cK gateA condK mops qcallK PCalls loadV fldV idxV lenV slV storeH binS
def nLedger (x : TLedger) : Nat := nStrS x.texts + x.signs.length
def mLedger (x : TLedger) : Nat := x.texts.length + x.signs.length * 2
def limLedger (x : TLedger) : Prop := (x.texts.length ≤ 9223372036854775807 ∧ ∀ y ∈ x.texts, y.size ≤ maxLen) ∧ x.signs.length ≤ 9223372036854775807
theorem laws_szLedger (x : TLedger) (k : Int) (hk : 0 ≤ k) (hk2 : k ≤ 4611686018427387904) (hl : limLedger x) : PCalls Tryz.prog 5 [ledgerE.val x, .int .i64 k] (.int .i64 (szI (nLedger x) k)) := by
  obtain ⟨l0, l1⟩ := hl
  unfold nLedger
  by_cases h0 : szI (nStrS x.texts) (k) < 0
  · rw [show szI (nStrS x.texts + x.signs.length) k = -1 by unfold szI at *; (repeat' split at *) <;> omega]
    have e0 := szI_neg h0
    refine PCalls.flat rfl ?_; refine ACalls.enter (n := 18) (rs := [.tmp 4]) Tryz.func5 rfl rfl rfl (by kernel_rfl) (by kernel_rfl) (by kernel_rfl) (Nat.le_of_ble_eq_true rfl) ?_
    repeat' (first | (refine ACalls.start ?_; first | (refine ACalls.ofJi (laws_szStringS x.texts (k) hk hk2 l0.1 l0.2) rfl ?_)) | (refine KV.run _ ?_) | (refine KT.run _ ?_) | (refine AWp.seqH fun KC => ?_) | (refine AWp.region ?_) | (refine AWp.ret ?_) | (refine aops_callH rfl fun kC => ?_) | (refine AWp.condB ?_) | (simp only [bse, wk, tys, storeH_ptr, Nat.reduceEqDiff, ↓reduceIte, reduceCtorEq, Nat.reduceAdd, Nat.reduceLeDiff, Int.reduceBEq, Int.reduceLT, Int.reduceLE, Int.reduceEq, ne_eq, not_false_eq_true, Nat.reduceMul, ledgerE_val, ledgerE_sz, *]))
  · skip
    by_cases h1 : szI (x.signs.length) (szI (nStrS x.texts) (k)) < 0
    · rw [show szI (nStrS x.texts + x.signs.length) k = -1 by unfold szI at *; (repeat' split at *) <;> omega]
      have e1 := szI_neg h1
      refine PCalls.flat rfl ?_; refine ACalls.enter (n := 18) (rs := [.tmp 4]) Tryz.func5 rfl rfl rfl (by kernel_rfl) (by kernel_rfl) (by kernel_rfl) (Nat.le_of_ble_eq_true rfl) ?_
      repeat' (first | (refine ACalls.start ?_; first | (refine ACalls.ofJi (laws_szStringS x.texts (k) hk hk2 l0.1 l0.2) rfl ?_) | (refine ACalls.ofJi (laws_szSignS x.signs (szI (nStrS x.texts) (k)) (szI_nn h0) (Int.le_trans (szI_le hk) hk2) l1) rfl ?_)) | (refine KV.run _ ?_) | (refine KT.run _ ?_) | (refine AWp.seqH fun KC => ?_) | (refine AWp.region ?_) | (refine AWp.ret ?_) | (refine AWp.skip ?_) | (refine aops_callH rfl fun kC => ?_) | (refine AWp.condB ?_) | (simp only [bse, wk, tys, storeH_ptr, Nat.reduceEqDiff, ↓reduceIte, reduceCtorEq, Nat.reduceAdd, Nat.reduceLeDiff, Int.reduceBEq, Int.reduceLT, Int.reduceLE, Int.reduceEq, ne_eq, not_false_eq_true, Nat.reduceMul, ledgerE_val, ledgerE_sz, *]))
    · rw [show szI (nStrS x.texts + x.signs.length) k = szI (x.signs.length) (szI (nStrS x.texts) (k)) by unfold szI at *; (repeat' split at *) <;> omega]
      refine PCalls.flat rfl ?_; refine ACalls.enter (n := 18) (rs := [.tmp 4]) Tryz.func5 rfl rfl rfl (by kernel_rfl) (by kernel_rfl) (by kernel_rfl) (Nat.le_of_ble_eq_true rfl) ?_
      repeat' (first | (refine ACalls.start ?_; first | (refine ACalls.ofJi (laws_szStringS x.texts (k) hk hk2 l0.1 l0.2) rfl ?_) | (refine ACalls.ofJi (laws_szSignS x.signs (szI (nStrS x.texts) (k)) (szI_nn h0) (Int.le_trans (szI_le hk) hk2) l1) rfl ?_)) | (refine KV.run _ ?_) | (refine KT.run _ ?_) | (refine AWp.seqH fun KC => ?_) | (refine AWp.region ?_) | (refine AWp.ret ?_) | (refine AWp.skip ?_) | (refine aops_callH rfl fun kC => ?_) | (refine AWp.condB ?_) | (simp only [bse, wk, tys, storeH_ptr, Nat.reduceEqDiff, ↓reduceIte, reduceCtorEq, Nat.reduceAdd, Nat.reduceLeDiff, Int.reduceBEq, Int.reduceLT, Int.reduceLE, Int.reduceEq, ne_eq, not_false_eq_true, Nat.reduceMul, ledgerE_val, ledgerE_sz, *]))
theorem laws_eqLedger (x : TLedger) (hn : nLedger x ≤ 1048576) : PCalls Tryz.prog 10 [ledgerE.val x, ledgerE.val x] (.bool true) := by
  unfold nLedger at hn
  refine PCalls.flat rfl ?_; refine ACalls.enter (n := 17) (rs := [.tmp 4]) Tryz.func10 rfl rfl rfl (by kernel_rfl) (by kernel_rfl) (by kernel_rfl) (Nat.le_of_ble_eq_true rfl) ?_
  repeat' (first | (refine ACalls.start ?_; first | (refine ACalls.ofJi (laws_eqStringS x.texts (by have := nStrS_len x.texts; omega)) rfl ?_) | (refine ACalls.ofJi (laws_eqSignS x.signs (by omega)) rfl ?_)) | (refine KV.run _ ?_) | (refine KT.run _ ?_) | (refine AWp.seqH fun KC => ?_) | (refine AWp.region ?_) | (refine AWp.ret ?_) | (refine AWp.skip ?_) | (refine aops_callH rfl fun kC => ?_) | (refine AWp.condB ?_) | (simp only [bse, wk, tys, storeH_ptr, Nat.reduceEqDiff, ↓reduceIte, reduceCtorEq, Nat.reduceAdd, Nat.reduceLeDiff, Int.reduceBEq, Int.reduceLT, Int.reduceLE, Int.reduceEq, ne_eq, not_false_eq_true, Nat.reduceMul, ledgerE_val, ledgerE_sz, *]))
theorem own_toLedger (x : TLedger) (hn : nLedger x ≤ 1048576) : NCalls Tryz.prog 7 [ledgerE.val x] (ledgerE.val x) := by
  unfold nLedger at hn
  have hc := CxP.nil 3
  refine NCalls.of ?_; refine ACalls.enter (n := 13) (rs := [.cell 2 35]) Tryz.func7 rfl rfl rfl (by kernel_rfl) (by kernel_rfl) (by kernel_rfl) (Nat.le_of_ble_eq_true rfl) ?_
  repeat' (first | (refine KT.run _ ?_) | (refine AWp.seqH fun KC => ?_) | (refine AWp.region ?_) | (refine aops_callH rfl fun kC => ?_) | (simp only [bse, wk, tys, storeH_ptr, Nat.reduceEqDiff, ↓reduceIte, reduceCtorEq, Nat.reduceAdd, Nat.reduceLeDiff, Int.reduceBEq, Int.reduceLT, Int.reduceLE, Int.reduceEq, ne_eq, not_false_eq_true, Nat.reduceMul, ledgerE_val, ledgerE_sz, *]))
  refine ACalls.get (NCalls.use (own_toStringS x.texts (by have := nStrS_len x.texts; omega)) (BorL.same (by repeat' (first | exact Im.nilL | refine Im.consL ?_ ?_ | refine Im.appL ?_ ?_ | exact Im.flat _ rfl | exact islE_im _ _ | exact Enc.val_im _ _ | assumption | refine Im.aggL ?_ | refine Im.funcL ?_ | refine Im.funcA ?_ | refine Im.isl ?_ | refine Im.ip ?_)))) (by first | exact Nat.le_refl _ | exact Nat.zero_le _ | (simp only [List.length_append, List.length_cons, List.length_nil]; omega) | (simp only [List.length_set]; omega) | omega) (by first | exact Nat.le_refl _ | exact Nat.zero_le _ | (simp only [List.length_append, List.length_cons, List.length_nil]; omega) | (simp only [List.length_set]; omega) | omega) ?_
  rintro d0 _ ⟨T0, hN0⟩
  obtain ⟨a0, n0, v0, rfl⟩ := hN0.own.slD
  obtain ⟨N0, rfl, hc⟩ := CxP.new hc [_, _, _] rfl hN0
  simp only [List.nil_append, List.cons_append] at hc
  clear hN0
  repeat' (first | (refine KV.run _ ?_) | (refine KT.run _ ?_) | (refine AWp.seqH fun KC => ?_) | (refine AWp.region ?_) | (refine aops_callH rfl fun kC => ?_) | (simp only [bse, wk, tys, storeH_ptr, Nat.reduceEqDiff, ↓reduceIte, reduceCtorEq, Nat.reduceAdd, Nat.reduceLeDiff, Int.reduceBEq, Int.reduceLT, Int.reduceLE, Int.reduceEq, ne_eq, not_false_eq_true, Nat.reduceMul, ledgerE_val, ledgerE_sz, *]))
  refine ACalls.get (NCalls.use (own_toSignS x.signs (by omega)) (BorL.same (by repeat' (first | exact Im.nilL | refine Im.consL ?_ ?_ | refine Im.appL ?_ ?_ | exact Im.flat _ rfl | exact islE_im _ _ | exact Enc.val_im _ _ | assumption | refine Im.aggL ?_ | refine Im.funcL ?_ | refine Im.funcA ?_ | refine Im.isl ?_ | refine Im.ip ?_)))) (by first | exact Nat.le_refl _ | exact Nat.zero_le _ | (simp only [List.length_append, List.length_cons, List.length_nil]; omega) | (simp only [List.length_set]; omega) | omega) (by first | exact Nat.le_refl _ | exact Nat.zero_le _ | (simp only [List.length_append, List.length_cons, List.length_nil]; omega) | (simp only [List.length_set]; omega) | omega) ?_
  rintro d1 _ ⟨T1, hN1⟩
  obtain ⟨a1, n1, v1, rfl⟩ := hN1.own.slD
  obtain ⟨N1, rfl, hc⟩ := CxP.new hc [_, _, _] rfl hN1
  simp only [List.nil_append, List.cons_append] at hc
  clear hN1
  repeat' (first | (refine KV.run _ ?_) | (refine KT.run _ ?_) | (refine AWp.seqH fun KC => ?_) | (refine AWp.region ?_) | (refine AWp.ret ?_) | (simp only [bse, wk, tys, storeH_ptr, Nat.reduceEqDiff, ↓reduceIte, reduceCtorEq, Nat.reduceAdd, Nat.reduceLeDiff, Int.reduceBEq, Int.reduceLT, Int.reduceLE, Int.reduceEq, ne_eq, not_false_eq_true, Nat.reduceMul, ledgerE_val, ledgerE_sz, *]))
  exact CxP.out hc [_, _, _] rfl fun _ hf => ⟨_, by simpa using hf.nd, OwnL.aggL (OwnL.append (hf.get 0 rfl).loose (OwnL.append (hf.get 1 rfl).loose (.nil)))⟩
theorem laws_toLedger (x : TLedger) (hn : nLedger x ≤ 1048576) : PCalls Tryz.prog 7 [ledgerE.val x] (ledgerE.val x) := (own_toLedger x hn).p
theorem nLedger_texts {l : TLedger} (h : nLedger l ≤ 1048576) : l.texts.length ≤ 1048576 := by have := nStrS_len l.texts; unfold nLedger at h; omega
theorem nLedger_signs {l : TLedger} (h : nLedger l ≤ 1048576) : l.signs.length ≤ 1048576 := by unfold nLedger at h; omega
end Go.BM
