/- Regions, code and calls, told by lists: the rules. -/
import Derived.Test.YtdhincmlefpfkaaC7
import Derived.Lib.SliceRun
import Derived.Laws.Cover3
set_option linter.unusedVariables false
set_option linter.unusedSimpArgs false
namespace Go.BM
open Go.RowKit

def callable (P : Program) (f : FuncId) : Bool :=
  match P.funcs[f]? with
  | some fn => (fn.name == "runtime.NumGoroutine") == false && fn.body.isSome
  | none => false

/-- THE CONTRACT of a call, over a heap of lists. -/
def ACalls (P : Program) (B : Nat) (f : FuncId) (args : List Value) (H : AH) (post : Value → AH → Prop) : Prop :=
  callable P f = true ∧ ∀ (σ : Sg) (w : World) (vals : Array Value), Sim σ H w → B ≤ H.length → VRL σ H vals.toList args →
    Calls P f vals w fun e w' => ∃ v, e = .returned v ∧ ∃ σ' H' d, Fut B σ H w σ' H' w' ∧ Sim σ' H' w' ∧ VR σ' H' v d ∧ post d H'

theorem ACalls.mono {P : Program} {B : Nat} {f : FuncId} {args : List Value} {H : AH} {post post' : Value → AH → Prop} (h : ACalls P B f args H post) (hp : ∀ d H', post d H' → post' d H') : ACalls P B f args H post' :=
  ⟨h.1, fun σ w vals hS hB hv => (h.2 σ w vals hS hB hv).mono fun e w' ⟨v, he, σ', H', d, h1, h2, h3, h4⟩ => ⟨v, he, σ', H', d, h1, h2, h3, hp _ _ h4⟩⟩

theorem pre_append {B : Nat} {H H' : AH} (hB : B = H.length) (h : ∀ r, r < B → H'[r]? = H[r]?) (hl : H.length ≤ H'.length) : ∃ N, H' = H ++ N := by
  subst hB
  refine ⟨H'.drop H.length, ?_⟩
  apply List.ext_getElem?
  intro j
  rcases Nat.lt_or_ge j H.length with hj | hj
  · rw [List.getElem?_append_left hj]; exact h j hj
  · rw [List.getElem?_append_right hj, List.getElem?_drop]
    congr 1
    omega

/-- A contract that leaves the older blocks alone, used in a heap: behind it the heap is the old one and more. -/
theorem ACalls.use {P : Program} {B B0 : Nat} {f : FuncId} {args : List Value} {H : AH} {post post' : Value → AH → Prop} (h : ACalls P B0 f args H post) (hB0 : B0 = H.length) (hB : B ≤ H.length)
    (hp : ∀ d N, post d (H ++ N) → post' d (H ++ N)) : ACalls P B f args H post' := by
  subst hB0
  refine ⟨h.1, fun σ w vals hS _ hv => (h.2 σ w vals hS (Nat.le_refl _) hv).mono fun e w' ⟨v, he, σ', H', d, h1, h2, h3, h4⟩ => ?_⟩
  obtain ⟨N, rfl⟩ := pre_append rfl h1.pre h1.len
  exact ⟨v, he, σ', _, d, h1.base hB, h2, h3, hp d N h4⟩

theorem ACalls.base {P : Program} {B B' : Nat} {f : FuncId} {args : List Value} {H : AH} {post : Value → AH → Prop} (h : ACalls P B' f args H post) (hB' : B' ≤ H.length) (hB : B ≤ B') : ACalls P B f args H post :=
  ⟨h.1, fun σ w vals hS _ hv => (h.2 σ w vals hS hB' hv).mono fun e w' ⟨v, he, σ', H', d, h1, h2, h3, h4⟩ => ⟨v, he, σ', H', d, h1.base hB, h2, h3, h4⟩⟩

/-- A call that comes to a plain value and leaves older blocks alone: the heap may be told as it was. -/
theorem ACalls.flat {P : Program} {B B0 : Nat} {f : FuncId} {args : List Value} {H : AH} {d : Value} {post' : Value → AH → Prop} (h : ACalls P B0 f args H fun v _ => v = d) (hB0 : B0 = H.length) (hd : pureV d = true) (hB : B ≤ H.length)
    (hp : post' d H) : ACalls P B f args H post' := by
  subst hB0
  refine ⟨h.1, fun σ w vals hS _ hv => (h.2 σ w vals hS (Nat.le_refl _) hv).mono fun e w' ⟨v, he, σ', H', d', h1, h2, h3, h4⟩ => ?_⟩
  subst h4
  have hb := h1.forget
  have : v = d' := h3.pureE hd
  subst this
  exact ⟨v, he, σ, H, v, .of_below hb, hS.below hb, .ofPure hd, hp⟩

/-! ### cells written in place -/
theorem splice_nil (cs : List Value) (off : Nat) : splice cs off [] = cs := by simp [splice]
theorem set_same' {H : AH} {r : Nat} {b : Blk} (h : H[r]? = some b) : H.set r b = H := by
  apply List.ext_getElem?
  intro j
  by_cases e : j = r
  · subst e
    rw [List.getElem?_set_self (lt_of_some h), h]
  · rw [List.getElem?_set_ne (Ne.symm e)]

theorem write_sound {P : Program} {B : Nat} {σ : Sg} {H : AH} {w : World} (hS : Sim σ H w) {r : Nat} {blk : Blk} (hb : H[r]? = some blk) (ho : blk.own = true) (hB : B ≤ r) {off : Nat} {us news : List Value} (hvl : VRL σ H us news) (h1 : ∀ u ∈ us, u.oneCell' = true)
    (hfit : off + news.length ≤ blk.cs.length) : ∃ w', (storeCells ⟨(σ r).b, (σ r).base + off, none⟩ us).run P w = .ok () w' ∧ Fut B σ H w (σ.upd r (σ r)) (H.set r { blk with cs := splice blk.cs off news }) w' ∧ Sim (σ.upd r (σ r)) (H.set r { blk with cs := splice blk.cs off news }) w' := by
  obtain ⟨c, hc1, hc2, hc3, hc4, hc5⟩ := hS.own r blk hb ho
  have hul := hvl.1
  have hst := run_storeCells_at P (σ r).b off blk.el us 0 c w hc1 (by omega) h1
  simp only [Nat.add_zero] at hst
  obtain ⟨F, S⟩ := upd_sound (B := B) (w' := w.setRow (σ r).b (c.toList.take off ++ us ++ c.toList.drop (off + us.length)).toArray) (blk' := { blk with cs := splice blk.cs off news }) hS hb hB rfl rfl rfl (by simp)
    (fun k _ hk => setRow_other w _ k _ (hk ho)) (σ r) (.inl ⟨rfl, ho⟩) (Nat.le_refl _) ho rfl _ (setRow_heap w _ c _ _ _ hc1) hc2 (by simp; omega) (by simp [splice_len (cs := blk.cs) (news := news) (off := off) hfit]; omega) (by
      intro j u hj
      simp only at hj
      rw [splice_get hfit] at hj
      have hget := splice_get (cs := c.toList) (news := us) (off := off) (by simp; omega) j
      unfold splice at hget
      simp only [List.getElem?_toArray]
      rw [hget]
      by_cases j1 : j < off
      · rw [if_pos j1] at hj ⊢
        obtain ⟨x', a1, a2, a3⟩ := hc5 j u hj
        exact ⟨x', by simpa using a1, a2, a3⟩
      · rw [if_neg j1] at hj ⊢
        by_cases j2 : j < off + news.length
        · rw [if_pos j2] at hj
          rw [if_pos (by omega)]
          obtain ⟨x', a1, a2⟩ := hvl.2 _ u hj
          exact ⟨x', a1, a2, h1 x' (List.mem_of_getElem? a1)⟩
        · rw [if_neg j2] at hj
          rw [if_neg (by omega)]
          obtain ⟨x', a1, a2, a3⟩ := hc5 j u hj
          exact ⟨x', by simpa using a1, a2, a3⟩)
  exact ⟨_, by rw [hc2, Nat.zero_add]; exact hst, F, S⟩

/-- How long a slice is, if that can be told. -/
def slen (H : AH) (x : Value) : Option Nat :=
  match asI x with
  | some (n, _) => some n
  | none =>
    (match x with
     | .slice none 0 0 => some 0
     | .slice (some ⟨r, _, _⟩) len ver => (match H[r]? with | some blk => if blk.ver = ver then some len else none | none => none)
     | _ => none)
theorem slen_sound {σ : Sg} {H : AH} {v x : Value} (hx : VR σ H v x) {n : Nat} (h : slen H x = some n) : ∃ a cap, v = .slice a n cap := by
  unfold slen at h
  cases ha : asI x with
  | some lc =>
    obtain ⟨m, cs⟩ := lc
    rw [ha] at h
    cases h
    rcases hx.aslice ha with ⟨rfl, _, a, cap, rfl, _⟩ | ⟨b, o, cap, us, rfl, _⟩ <;> exact ⟨_, _, rfl⟩
  | none =>
    rw [ha] at h
    dsimp only at h
    split at h
    · cases h; obtain ⟨a, rfl⟩ := hx.sliceNil rfl; exact ⟨_, _, rfl⟩
    · rename_i r off sp len ver
      cases hb : H[r]? with
      | none => rw [hb] at h; cases h
      | some blk =>
        rw [hb] at h
        dsimp only at h
        by_cases hv : blk.ver = ver
        · rw [if_pos hv] at h; cases h; exact hx.sliceJ hb hv
        · rw [if_neg hv] at h; cases h
    · cases h

/-- 's == nil', 's != nil' at a slice. -/
def nilOp : Op → Option (Bool × TypeId × Operand)
  | .binOp .eql t x (.const (.slice none 0 0)) _ => some (true, t, x)
  | .binOp .neq t x (.const (.slice none 0 0)) _ => some (false, t, x)
  | _ => none
def nilQ (P : Program) (H : AH) (pos : Bool) (t : TypeId) (x : Value) (k : Value → AH → Prop) : Prop :=
  match elZ P t, slen H x with
  | some _, some n => ∀ b : Bool, (b = true → n = 0) → k (.bool (if pos then b else !b)) H
  | _, _ => False

def clearH (P : Program) (B : Nat) (H : AH) (t : TypeId) (x : Value) : Option AH :=
  match x with
  | .slice (some ⟨r, off, _⟩) len ver =>
    (match elZ P t, H[r]? with
     | some (el, sz, _), some blk =>
       (match zeroV P el with
        | some z => if zOk P el sz = true ∧ blk.ver = ver ∧ blk.own = true ∧ B ≤ r ∧ off + len * sz ≤ blk.cs.length then some (H.set r { blk with cs := splice blk.cs off (zerosOf (cellsV z) (len * sz)) }) else none
        | none => none)
     | _, _ => none)
  | _ => none

theorem zeroCells_eq (z : Value) (n : Nat) : (Builtin.zeroCells z.cells n).toList = zerosOf (cellsV z) (n * z.cells.size) := by
  apply List.ext_getElem?
  intro j
  unfold Builtin.zeroCells zerosOf
  rcases Nat.lt_or_ge j (n * z.cells.size) with hj | hj
  · have h0 : 0 < z.cells.size := by
      rcases Nat.eq_zero_or_pos z.cells.size with h | h
      · rw [h] at hj; simp at hj
      · exact h
    have hm : j % z.cells.size < z.cells.size := Nat.mod_lt _ h0
    rw [← cellsV_eq]
    simp [hj, List.getD, getElem!_pos z.cells (j % z.cells.size) hm, hm]
  · rw [List.getElem?_eq_none (by simp; exact hj), List.getElem?_eq_none (by simp; exact hj)]

theorem clear_sound {P : Program} {B : Nat} {σ : Sg} {H : AH} {w : World} (hS : Sim σ H w) {t ty : TypeId} {v x : Value} {H' : AH} (hx : VR σ H v x) (h : clearH P B H t x = some H') :
    Goes P B σ H w ((Builtin.clear_ #[t] ty #[v]).run P w) (.tuple #[]) H' := by
  unfold clearH at h
  split at h
  case h_2 => cases h
  rename_i r off sp len ver
  split at h
  case h_2 => cases h
  rename_i el sz by_ blk he hb
  cases hz : zeroV P el with
  | none => rw [hz] at h; cases h
  | some z =>
    rw [hz] at h
    dsimp only at h
    by_cases hc : zOk P el sz = true ∧ blk.ver = ver ∧ blk.own = true ∧ B ≤ r ∧ off + len * sz ≤ blk.cs.length
    · rw [if_pos hc] at h
      cases h
      obtain ⟨c0, c1, c2, c3, c4⟩ := hc
      obtain ⟨hu, i, hi, hisz, hiby⟩ := elZ_some he
      unfold zOk at c0
      rw [hz] at c0
      simp only [Bool.and_eq_true, decide_eq_true_eq] at c0
      obtain ⟨⟨⟨hzs, hzc⟩, hz1⟩, hpos⟩ := c0
      have hzz : ∀ w, (zeroValue el).run P w = .ok z w := fun w => by
        unfold zeroV at hz
        rw [hi] at hz
        simp only [Option.bind_some] at hz
        simp [zeroValue, typeInfo, hi, hz]
      have hg : getB H r ver = some blk.cs := by simp [getB, hb, c1, c2]
      rcases hx.sliceI hg with ⟨rfl, _, a, rfl⟩ | ⟨cap, blk', hb', rfl, _⟩
      · have e : H.set r { blk with cs := splice blk.cs off (zerosOf (cellsV z) (0 * sz)) } = H := by
          rw [Nat.zero_mul]
          show H.set r { blk with cs := splice blk.cs off [] } = H
          rw [splice_nil]
          exact set_same' hb
        rw [e]
        exact ⟨_, w, σ, by cases a <;> simp [Builtin.clear_, run_underlying hu], .refl _ _ _ _, hS, .tuple _ _ rfl fun i h1 => absurd h1 (Nat.not_lt_zero _)⟩
      · rw [hb] at hb'
        cases hb'
        have hmem : ∀ u ∈ zerosOf (cellsV z) (len * sz), u ∈ z.cells.toList ∨ len * sz = 0 := fun u hu => by
          rcases Nat.eq_zero_or_pos (len * sz) with h0 | h0
          · exact .inr h0
          · left
            unfold zerosOf at hu
            obtain ⟨j, _, rfl⟩ := List.mem_map.1 hu
            rw [← cellsV_eq] 
            have hlt : j % z.cells.toList.length < z.cells.toList.length := Nat.mod_lt _ (by simp; omega)
            simp only [List.getD, List.getElem?_eq_getElem hlt, Option.getD_some]
            exact List.getElem_mem hlt
        by_cases h0 : len = 0
        · subst h0
          have e : H.set r { blk with cs := splice blk.cs off (zerosOf (cellsV z) (0 * sz)) } = H := by
            rw [Nat.zero_mul]
            show H.set r { blk with cs := splice blk.cs off [] } = H
            rw [splice_nil]
            exact set_same' hb
          rw [e]
          exact ⟨_, w, σ, by simp [Builtin.clear_, run_underlying hu], .refl _ _ _ _, hS, .tuple _ _ rfl fun i h1 => absurd h1 (Nat.not_lt_zero _)⟩
        · have hmem' : ∀ u ∈ zerosOf (cellsV z) (len * sz), u ∈ z.cells.toList := fun u hu => by
            rcases hmem u hu with h | h
            · exact h
            · have := Nat.mul_pos (Nat.pos_of_ne_zero h0) hpos; omega
          have hlen : (zerosOf (cellsV z) (len * sz)).length = len * sz := by simp [zerosOf]
          obtain ⟨w', hst, F, S⟩ := write_sound (P := P) (B := B) hS hb c2 c3 (off := off) (us := zerosOf (cellsV z) (len * sz)) (news := zerosOf (cellsV z) (len * sz)) (VRL.consts (List.all_eq_true.2 fun u hu => Array.all_eq_true'.1 hzc u (by simpa using hmem' u hu))) (fun u hu => Array.all_eq_true'.1 hz1 u (by simpa using hmem' u hu)) (by rw [hlen]; exact c4)
          obtain ⟨m, rfl⟩ : ∃ m, len = m + 1 := ⟨len - 1, by omega⟩
          refine ⟨_, w', _, ?_, F, S, .tuple _ _ rfl fun i h1 => absurd h1 (Nat.not_lt_zero _)⟩
          simp [Builtin.clear_, run_underlying hu, hzz, zeroCells_eq, hzs, hst]
    · rw [if_neg hc] at h; cases h

def zOkV (z : Value) : Bool :=
  match z with
  | .agg cs => cs.all constOk && cs.all Value.oneCell'
  | v => constOk v && v.oneCell'

def optH (o : Option AH) (k : AH → Prop) : Prop :=
  match o with
  | some H => k H
  | none => False

noncomputable def aopE (P : Program) (B : Nat) (e : Env) (H : AH) (op : Op) (k : Value → AH → Prop) : Prop :=
  match op with
  | .binOp o t x y u => (match nilOp (.binOp o t x y u) with | some (pos, t, x) => nilQ P H pos t (ev e x) k | none => False)
  | .box T x => (cellsV (ev e x)).all Value.oneCell' = true ∧ k (.pointer (some ⟨H.length, 0, some 0⟩)) (H ++ [mkB T 0 (cellsV (ev e x))])
  | .alloc T => optK (zeroV P T) fun z => zOkV z = true ∧ k (.pointer (some ⟨H.length, 0, some 0⟩)) (H ++ [mkB T 0 (cellsV z)])
  | .store t x v => optH (storeH P B H t (ev e x) (ev e v)) fun H' => k undef H'
  | .buildSlice t len ps => optP (buildSliceH P H t len (ps.toList.map fun p => (p.1, ev e p.2))) k
  | .makeSlice t l c => optP (makeH P H t (ev e l) (ev e c)) k
  | .call c =>
    (match c.callee with
     | .builtin .append =>
       (match c.args.toList, c.argTypes.toList with
        | [s, x], [t, tx] => optP (appendH P B H t tx (ev e s) (ev e x)) k
        | _, _ => False)
     | .builtin .clear =>
       (match c.args.toList, c.argTypes.toList with
        | [x], [t] => optH (clearH P B H t (ev e x)) fun H' => k (.tuple #[]) H'
        | _, _ => False)
     | .value f =>
       (match ev e f with
        | .func (.func g) first caps => first.size = 0 ∧ ACalls P B g (c.args.toList.map (ev e) ++ caps.toList) H k
        | _ => False)
     | _ => False)
  | _ => False

section
variable {P : Program} {B n : Nat} {σ : Sg} {H : AH} {w : World} {a : Act} {e : Env}

theorem zOkV_rel {z : Value} (h : zOkV z = true) (σ : Sg) (H : AH) : VR σ H z z ∧ (cellsV z).all Value.oneCell' = true := by
  unfold zOkV at h
  split at h
  · rename_i cs
    rw [Bool.and_eq_true] at h
    refine ⟨?_, by simpa [cellsV] using h.2⟩
    have := (VRL.consts (σ := σ) (H := H) (zs := cs.toList) (by simpa using h.1)).toAgg
    simpa using this
  · rename_i v hne
    rw [Bool.and_eq_true] at h
    refine ⟨flat_const h.1 σ H, ?_⟩
    have : cellsV z = [z] := by cases z <;> first | rfl | (exact absurd rfl (hne _))
    rw [this]
    simpa using h.2

/-- THE OPERATIONS THAT MAKE, WRITE OR CALL. -/
theorem eff_sound (hS : Sim σ H w) (hB : B ≤ H.length) (hE : ER n σ H a e) {o : Oper} (hok : o.op.operands.all (opdOk n) = true) {k : Value → AH → Prop} (h : aopE P B e H o.op k)
    {next : Act → World → Prop} {Q : Exit → Act → World → Prop}
    (hn : ∀ v w' σ' H' d, Fut B σ H w σ' H' w' → Sim σ' H' w' → VR σ' H' v d → k d H' → next (a.put o.dst v) w') : o.wp P a w next Q := by
  obtain ⟨dst, op, ty, pos0, af, g⟩ := o
  dsimp only at hok h hn
  have ok : ∀ x ∈ op.operands.toList, opdOk n x = true := fun x hx => Array.all_eq_true'.1 hok x (by simpa using hx)
  have goes : ∀ {r : Result Value} {d : Value} {H' : AH}, Goes P B σ H w r d H' → k d H' → ∀ s : Sem Value, s.run P w = r → execOp a.eval ⟨dst, op, ty, pos0, af, g⟩ = (do pure (.value (← s))) → Oper.wp P ⟨dst, op, ty, pos0, af, g⟩ a w next Q := by
    intro r d H' hg hk s hs he
    obtain ⟨v, w', σ', rfl, F, S, V⟩ := hg
    unfold Oper.wp
    rw [he]
    simp only [Sem.run_bind, hs, Result.andThen_ok, Sem.run_pure, Oper.upon_value]
    exact hn _ _ _ _ _ F S V hk
  cases op <;> simp only [Op.operands] at ok <;> simp only [aopE] at h
  case binOp o t x y u =>
    split at h
    case h_2 => exact h.elim
    rename_i pos t' x' hnil
    have hcase : (o = .eql ∧ pos = true ∨ o = .neq ∧ pos = false) ∧ t' = t ∧ x' = x ∧ y = .const (.slice none 0 0) := by
      unfold nilOp at hnil
      split at hnil
      · rename_i e
        cases e
        cases hnil
        exact ⟨.inl ⟨rfl, rfl⟩, rfl, rfl, rfl⟩
      · rename_i e
        cases e
        cases hnil
        exact ⟨.inr ⟨rfl, rfl⟩, rfl, rfl, rfl⟩
      · cases hnil
    obtain ⟨hop, rfl, rfl, rfl⟩ := hcase
    unfold nilQ at h
    split at h
    case h_2 => exact h.elim
    rename_i z n' hz hl
    obtain ⟨el, sz, by_⟩ := z
    obtain ⟨hu, _⟩ := elZ_some hz
    obtain ⟨ad, cap, hv⟩ := slen_sound (hE.eval (ok x' (by simp))) hl
    have hzero : ad.isNone = true → n' = 0 := fun ha => by
      have hvr := hE.eval (ok x' (by simp))
      rw [hv] at hvr
      cases ad with
      | some _ => cases ha
      | none =>
        generalize ev e x' = dx at hvr hl
        cases hvr with
        | flat _ h => simp [flatV] at h
        | mt => rfl
        | stale r off len ver sp blk h hv =>
          unfold slen at hl
          simp only [asI] at hl
          rw [h] at hl
          dsimp only at hl
          rw [if_neg (by omega)] at hl
          cases hl
        | isl0 => rfl
    rcases hop with ⟨rfl, rfl⟩ | ⟨rfl, rfl⟩
    · have hb := h ad.isNone hzero
      simp only [if_true] at hb
      have := Go.Lib.run_eql_slice_nil (P := P) w t' el ad n' cap 0 0 hu
      have hr : (execOp a.eval ⟨dst, .binOp .eql t' x' (.const (.slice none 0 0)) u, ty, pos0, af, g⟩).run P w = .ok (.value (.bool ad.isNone)) w := by
        have he : a.eval (.const (.slice none 0 0)) = .slice none 0 0 := rfl
        simp [execOp, he, hv, eqGuard, this]
      unfold Oper.wp
      rw [hr, Oper.upon_value]
      exact hn _ _ _ _ _ (.refl _ _ _ _) hS (.flat _ rfl) hb
    · have hb := h ad.isNone hzero
      simp only [Bool.false_eq_true, if_false] at hb
      have := run_neq_slice_nil (P := P) w t' el ad n' cap hu
      have hr : (execOp a.eval ⟨dst, .binOp .neq t' x' (.const (.slice none 0 0)) u, ty, pos0, af, g⟩).run P w = .ok (.value (.bool (!ad.isNone))) w := by
        have he : a.eval (.const (.slice none 0 0)) = .slice none 0 0 := rfl
        simp [execOp, he, hv, eqGuard, this]
      unfold Oper.wp
      rw [hr, Oper.upon_value]
      exact hn _ _ _ _ _ (.refl _ _ _ _) hS (.flat _ rfl) hb
  case box T x => exact goes (box_sound (P := P) hS hB (hE.eval (ok x (by simp))) h.1 0) h.2 _ rfl rfl
  case alloc T =>
    cases hz : zeroV P T with
    | none => rw [hz] at h; exact h.elim
    | some z =>
      rw [hz] at h
      obtain ⟨h1, h2⟩ := h
      obtain ⟨hr, ho⟩ := zOkV_rel h1 σ H
      have hrun : (Instr.alloc T true (.tuple #[])).run P w = (Instr.box T z).run P w := by
        unfold zeroV at hz
        cases hi : P.info? T with
        | none => rw [hi] at hz; cases hz
        | some i =>
          rw [hi] at hz
          simp only [Option.bind_some] at hz
          simp [Instr.alloc, Instr.box, zeroValue, typeInfo, hi, hz]
      exact goes (box_sound (P := P) hS hB hr ho 0) h2 (Instr.alloc T true (.tuple #[])) hrun rfl
  case store t x v =>
    cases hs : storeH P B H t (ev e x) (ev e v) with
    | none => rw [hs] at h; exact h.elim
    | some H' =>
      rw [hs] at h
      obtain ⟨w', σ', hr, F, S⟩ := store_sound (P := P) hS (hE.eval (ok x (by simp))) (hE.eval (ok v (by simp))) hs
      unfold Oper.wp execOp
      simp only [Sem.run_bind, hr, Result.andThen_ok, Sem.run_pure, Oper.upon_skip]
      exact hn _ _ _ _ undef F S (.flat _ rfl) h
  case buildSlice t len ps =>
    cases hs : buildSliceH P H t len (ps.toList.map fun p => (p.1, ev e p.2)) with
    | none => rw [hs] at h; exact h.elim
    | some dH =>
      rw [hs] at h
      exact goes (buildSlice_sound (P := P) hS hB hE (fun p hp => ok p.2 (by simp; exact ⟨p.1, by simpa using hp⟩)) (d := dH.1) (H' := dH.2) hs) h _ rfl rfl
  case makeSlice t l c =>
    cases hs : makeH P H t (ev e l) (ev e c) with
    | none => rw [hs] at h; exact h.elim
    | some dH =>
      rw [hs] at h
      exact goes (make_sound (P := P) hS hB (hE.eval (ok l (by simp))) (hE.eval (ok c (by simp))) (d := dH.1) (H' := dH.2) hs) h _ rfl rfl
  case call c =>
    obtain ⟨callee, args, argTypes⟩ := c
    dsimp only at h
    cases callee with
    | invoke r m => exact h.elim
    | builtin b =>
      cases b <;> try (exact h.elim)
      case append =>
        dsimp only at h
        split at h
        case h_2 => exact h.elim
        rename_i s x t tx hargs hts
        have ha : args = #[s, x] := by apply Array.ext'; exact hargs
        have ht : argTypes = #[t, tx] := by apply Array.ext'; exact hts
        subst ha; subst ht
        cases hs : appendH P B H t tx (ev e s) (ev e x) with
        | none => rw [hs] at h; exact h.elim
        | some dH =>
          rw [hs] at h
          refine goes (append_sound (P := P) (ty := ty) hS hB (hE.eval (ok s (by simp [Call.operands]))) (hE.eval (ok x (by simp [Call.operands]))) (d := dH.1) (H' := dH.2) hs) h (Builtin.append_ #[t, tx] ty #[a.eval s, a.eval x]) rfl ?_
          simp [execOp, resolve, invoke, builtin]
      case clear =>
        dsimp only at h
        split at h
        case h_2 => exact h.elim
        rename_i x t hargs hts
        have ha : args = #[x] := by apply Array.ext'; exact hargs
        have ht : argTypes = #[t] := by apply Array.ext'; exact hts
        subst ha; subst ht
        cases hs : clearH P B H t (ev e x) with
        | none => rw [hs] at h; exact h.elim
        | some H' =>
          rw [hs] at h
          refine goes (clear_sound (P := P) (ty := ty) hS (hE.eval (ok x (by simp [Call.operands]))) hs) h (Builtin.clear_ #[t] ty #[a.eval x]) rfl ?_
          simp [execOp, resolve, invoke, builtin]
    | value f =>
      dsimp only at h
      split at h
      case h_2 => exact h.elim
      rename_i g0 first caps hf
      obtain ⟨hfs, hcall⟩ := h
      have hfirst : first = #[] := Array.eq_empty_of_size_eq_zero hfs
      subst hfirst
      have hv := hE.eval (ok f (by simp [Call.operands]))
      rw [hf] at hv
      obtain ⟨xs, hxs, hxl⟩ : ∃ xs : Array Value, a.eval f = .func (.func g0) #[] xs ∧ VRL σ H xs.toList caps.toList := by
        generalize a.eval f = vf at hv
        cases hv with
        | flat _ hfl => simp [flatV] at hfl
        | func fn xs ys hs hvv =>
          refine ⟨xs, rfl, by simpa using hs, fun j u hu => ?_⟩
          have hj : j < caps.size := by have := lt_of_some' hu; simpa using this
          have hjx : j < xs.size := by rw [hs]; exact hj
          have := hvv j hjx hj
          rw [Array.getElem?_toList, Array.getElem?_eq_getElem hj] at hu
          cases hu
          exact ⟨_, by rw [Array.getElem?_toList, Array.getElem?_eq_getElem hjx], this⟩
      have hal := hE.evalL args.toList (fun x hx => ok x (by simp [Call.operands]; exact .inr (by simpa using hx)))
      have hvals : VRL σ H ((args.map a.eval) ++ xs).toList (args.toList.map (ev e) ++ caps.toList) := by
        rw [Array.toList_append, Array.toList_map]
        exact hal.append hxl
      obtain ⟨hcb, hc⟩ := hcall
      have hrun : (execOp a.eval ⟨dst, .call ⟨.value f, args, argTypes⟩, ty, pos0, af, g⟩).run P w = .ok (.enter g0 (args.map a.eval ++ xs)) w := by
        unfold callable at hcb
        cases hfn : P.funcs[g0]? with
        | none => rw [hfn] at hcb; cases hcb
        | some fn =>
          rw [hfn] at hcb
          simp only [Bool.and_eq_true, beq_iff_eq] at hcb
          obtain ⟨hname, hbody⟩ := hcb
          have hbn : ¬ fn.body = none := by intro hx; rw [hx] at hbody; cases hbody
          have hname' : ¬ fn.name = "runtime.NumGoroutine" := by intro hx; rw [hx] at hname; simp at hname
          simp [execOp, resolve, hxs, Deferred.ofValue, invoke, callFunc, hfn, hname', hbn]
      unfold Oper.wp
      rw [hrun, Oper.upon_enter]
      refine (hc σ w _ hS hB hvals).mono fun ee w' ⟨v, hee, σ', H', d, F, S, V, hk⟩ => ?_
      subst hee
      exact hn _ _ _ _ _ F S V hk

end
end Go.BM
