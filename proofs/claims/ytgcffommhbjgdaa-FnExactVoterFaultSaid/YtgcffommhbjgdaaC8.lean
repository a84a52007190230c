/- Regions, code and calls, told by lists: the rules. -/
import Derived.Test.YtgcffommhbjgdaaC7
set_option linter.unusedVariables false
set_option linter.unusedSimpArgs false
namespace Go.BM
open Go.RowKit

def callable (P : Program) (f : FuncId) : Bool :=
  match P.funcs[f]? with
  | some fn => (fn.name == "runtime.NumGoroutine") == false && fn.body.isSome
  | none => false

/-- THE CONTRACT of a call, over a heap of lists. -/
def ACalls (P : Program) (B : Nat) (f : FuncId) (args : List Value) (H : AH) (post : Value → AH → Prop) : Prop :=
  callable P f = true ∧ ∀ (σ : Sg) (w : World) (vals : Array Value), Sim σ H w → B ≤ H.length → VRL σ H vals.toList args →
    Calls P f vals w fun e w' => ∃ v, e = .returned v ∧ ∃ σ' H' d, Fut B σ H w σ' H' w' ∧ Sim σ' H' w' ∧ VR σ' H' v d ∧ post d H'

theorem ACalls.mono {P : Program} {B : Nat} {f : FuncId} {args : List Value} {H : AH} {post post' : Value → AH → Prop} (h : ACalls P B f args H post) (hp : ∀ d H', post d H' → post' d H') : ACalls P B f args H post' :=
  ⟨h.1, fun σ w vals hS hB hv => (h.2 σ w vals hS hB hv).mono fun e w' ⟨v, he, σ', H', d, h1, h2, h3, h4⟩ => ⟨v, he, σ', H', d, h1, h2, h3, hp _ _ h4⟩⟩

theorem pre_append {B : Nat} {H H' : AH} (hB : B = H.length) (h : ∀ r, r < B → H'[r]? = H[r]?) (hl : H.length ≤ H'.length) : ∃ N, H' = H ++ N := by
  subst hB
  refine ⟨H'.drop H.length, ?_⟩
  apply List.ext_getElem?
  intro j
  rcases Nat.lt_or_ge j H.length with hj | hj
  · rw [List.getElem?_append_left hj]; exact h j hj
  · rw [List.getElem?_append_right hj, List.getElem?_drop]
    congr 1
    omega

/-- A contract that leaves the older blocks alone, used in a heap: behind it the heap is the old one and more. -/
theorem ACalls.use {P : Program} {B B0 : Nat} {f : FuncId} {args : List Value} {H : AH} {post post' : Value → AH → Prop} (h : ACalls P B0 f args H post) (hB0 : B0 = H.length) (hB : B ≤ H.length)
    (hp : ∀ d N, post d (H ++ N) → post' d (H ++ N)) : ACalls P B f args H post' := by
  subst hB0
  refine ⟨h.1, fun σ w vals hS _ hv => (h.2 σ w vals hS (Nat.le_refl _) hv).mono fun e w' ⟨v, he, σ', H', d, h1, h2, h3, h4⟩ => ?_⟩
  obtain ⟨N, rfl⟩ := pre_append rfl h1.pre h1.len
  exact ⟨v, he, σ', _, d, h1.base hB, h2, h3, hp d N h4⟩

theorem ACalls.base {P : Program} {B B' : Nat} {f : FuncId} {args : List Value} {H : AH} {post : Value → AH → Prop} (h : ACalls P B' f args H post) (hB' : B' ≤ H.length) (hB : B ≤ B') : ACalls P B f args H post :=
  ⟨h.1, fun σ w vals hS _ hv => (h.2 σ w vals hS hB' hv).mono fun e w' ⟨v, he, σ', H', d, h1, h2, h3, h4⟩ => ⟨v, he, σ', H', d, h1.base hB, h2, h3, h4⟩⟩

/-- A call that comes to a plain value and leaves older blocks alone: the heap may be told as it was. -/
theorem ACalls.flat {P : Program} {B B0 : Nat} {f : FuncId} {args : List Value} {H : AH} {d : Value} {post' : Value → AH → Prop} (h : ACalls P B0 f args H fun v _ => v = d) (hB0 : B0 = H.length) (hd : pureV d = true) (hB : B ≤ H.length)
    (hp : post' d H) : ACalls P B f args H post' := by
  subst hB0
  refine ⟨h.1, fun σ w vals hS _ hv => (h.2 σ w vals hS (Nat.le_refl _) hv).mono fun e w' ⟨v, he, σ', H', d', h1, h2, h3, h4⟩ => ?_⟩
  subst h4
  have hb := h1.forget
  have : v = d' := h3.pureE hd
  subst this
  exact ⟨v, he, σ, H, v, .of_below hb, hS.below hb, .ofPure hd, hp⟩

def zOkV (z : Value) : Bool :=
  match z with
  | .agg cs => cs.all constOk && cs.all Value.oneCell'
  | v => constOk v && v.oneCell'

def optH (o : Option AH) (k : AH → Prop) : Prop :=
  match o with
  | some H => k H
  | none => False

noncomputable def aopE (P : Program) (B : Nat) (e : Env) (H : AH) (op : Op) (k : Value → AH → Prop) : Prop :=
  match op with
  | .box T x => (cellsV (ev e x)).all Value.oneCell' = true ∧ k (.pointer (some ⟨H.length, 0, some 0⟩)) (H ++ [mkB T 0 (cellsV (ev e x))])
  | .alloc T => optK (zeroV P T) fun z => zOkV z = true ∧ k (.pointer (some ⟨H.length, 0, some 0⟩)) (H ++ [mkB T 0 (cellsV z)])
  | .store t x v => optH (storeH P B H t (ev e x) (ev e v)) fun H' => k undef H'
  | .buildSlice t len ps => optP (buildSliceH P H t len (ps.toList.map fun p => (p.1, ev e p.2))) k
  | .makeSlice t l c => optP (makeH P H t (ev e l) (ev e c)) k
  | .call c =>
    (match c.callee with
     | .builtin .append =>
       (match c.args.toList, c.argTypes.toList with
        | [s, x], [t, tx] => optP (appendH P B H t tx (ev e s) (ev e x)) k
        | _, _ => False)
     | .value f =>
       (match ev e f with
        | .func (.func g) first caps => first.size = 0 ∧ ACalls P B g (c.args.toList.map (ev e) ++ caps.toList) H k
        | _ => False)
     | _ => False)
  | _ => False

section
variable {P : Program} {B n : Nat} {σ : Sg} {H : AH} {w : World} {a : Act} {e : Env}

theorem zOkV_rel {z : Value} (h : zOkV z = true) (σ : Sg) (H : AH) : VR σ H z z ∧ (cellsV z).all Value.oneCell' = true := by
  unfold zOkV at h
  split at h
  · rename_i cs
    rw [Bool.and_eq_true] at h
    refine ⟨?_, by simpa [cellsV] using h.2⟩
    have := (VRL.consts (σ := σ) (H := H) (zs := cs.toList) (by simpa using h.1)).toAgg
    simpa using this
  · rename_i v hne
    rw [Bool.and_eq_true] at h
    refine ⟨flat_const h.1 σ H, ?_⟩
    have : cellsV z = [z] := by cases z <;> first | rfl | (exact absurd rfl (hne _))
    rw [this]
    simpa using h.2

/-- THE OPERATIONS THAT MAKE, WRITE OR CALL. -/
theorem eff_sound (hS : Sim σ H w) (hB : B ≤ H.length) (hE : ER n σ H a e) {o : Oper} (hok : o.op.operands.all (opdOk n) = true) {k : Value → AH → Prop} (h : aopE P B e H o.op k)
    {next : Act → World → Prop} {Q : Exit → Act → World → Prop}
    (hn : ∀ v w' σ' H' d, Fut B σ H w σ' H' w' → Sim σ' H' w' → VR σ' H' v d → k d H' → next (a.put o.dst v) w') : o.wp P a w next Q := by
  obtain ⟨dst, op, ty, pos, af, g⟩ := o
  dsimp only at hok h hn
  have ok : ∀ x ∈ op.operands.toList, opdOk n x = true := fun x hx => Array.all_eq_true'.1 hok x (by simpa using hx)
  have goes : ∀ {r : Result Value} {d : Value} {H' : AH}, Goes P B σ H w r d H' → k d H' → ∀ s : Sem Value, s.run P w = r → execOp a.eval ⟨dst, op, ty, pos, af, g⟩ = (do pure (.value (← s))) → Oper.wp P ⟨dst, op, ty, pos, af, g⟩ a w next Q := by
    intro r d H' hg hk s hs he
    obtain ⟨v, w', σ', rfl, F, S, V⟩ := hg
    unfold Oper.wp
    rw [he]
    simp only [Sem.run_bind, hs, Result.andThen_ok, Sem.run_pure, Oper.upon_value]
    exact hn _ _ _ _ _ F S V hk
  cases op <;> simp only [Op.operands] at ok <;> simp only [aopE] at h
  case box T x => exact goes (box_sound (P := P) hS hB (hE.eval (ok x (by simp))) h.1 0) h.2 _ rfl rfl
  case alloc T =>
    cases hz : zeroV P T with
    | none => rw [hz] at h; exact h.elim
    | some z =>
      rw [hz] at h
      obtain ⟨h1, h2⟩ := h
      obtain ⟨hr, ho⟩ := zOkV_rel h1 σ H
      have hrun : (Instr.alloc T true (.tuple #[])).run P w = (Instr.box T z).run P w := by
        unfold zeroV at hz
        cases hi : P.info? T with
        | none => rw [hi] at hz; cases hz
        | some i =>
          rw [hi] at hz
          simp only [Option.bind_some] at hz
          simp [Instr.alloc, Instr.box, zeroValue, typeInfo, hi, hz]
      exact goes (box_sound (P := P) hS hB hr ho 0) h2 (Instr.alloc T true (.tuple #[])) hrun rfl
  case store t x v =>
    cases hs : storeH P B H t (ev e x) (ev e v) with
    | none => rw [hs] at h; exact h.elim
    | some H' =>
      rw [hs] at h
      obtain ⟨w', σ', hr, F, S⟩ := store_sound (P := P) hS (hE.eval (ok x (by simp))) (hE.eval (ok v (by simp))) hs
      unfold Oper.wp execOp
      simp only [Sem.run_bind, hr, Result.andThen_ok, Sem.run_pure, Oper.upon_skip]
      exact hn _ _ _ _ undef F S (.flat _ rfl) h
  case buildSlice t len ps =>
    cases hs : buildSliceH P H t len (ps.toList.map fun p => (p.1, ev e p.2)) with
    | none => rw [hs] at h; exact h.elim
    | some dH =>
      rw [hs] at h
      exact goes (buildSlice_sound (P := P) hS hB hE (fun p hp => ok p.2 (by simp; exact ⟨p.1, by simpa using hp⟩)) (d := dH.1) (H' := dH.2) hs) h _ rfl rfl
  case makeSlice t l c =>
    cases hs : makeH P H t (ev e l) (ev e c) with
    | none => rw [hs] at h; exact h.elim
    | some dH =>
      rw [hs] at h
      exact goes (make_sound (P := P) hS hB (hE.eval (ok l (by simp))) (hE.eval (ok c (by simp))) (d := dH.1) (H' := dH.2) hs) h _ rfl rfl
  case call c =>
    obtain ⟨callee, args, argTypes⟩ := c
    dsimp only at h
    cases callee with
    | invoke r m => exact h.elim
    | builtin b =>
      cases b <;> try (exact h.elim)
      dsimp only at h
      split at h
      case h_2 => exact h.elim
      rename_i s x t tx hargs hts
      have ha : args = #[s, x] := by apply Array.ext'; exact hargs
      have ht : argTypes = #[t, tx] := by apply Array.ext'; exact hts
      subst ha; subst ht
      cases hs : appendH P B H t tx (ev e s) (ev e x) with
      | none => rw [hs] at h; exact h.elim
      | some dH =>
        rw [hs] at h
        refine goes (append_sound (P := P) (ty := ty) hS hB (hE.eval (ok s (by simp [Call.operands]))) (hE.eval (ok x (by simp [Call.operands]))) (d := dH.1) (H' := dH.2) hs) h (Builtin.append_ #[t, tx] ty #[a.eval s, a.eval x]) rfl ?_
        simp [execOp, resolve, invoke, builtin]
    | value f =>
      dsimp only at h
      split at h
      case h_2 => exact h.elim
      rename_i g0 first caps hf
      obtain ⟨hfs, hcall⟩ := h
      have hfirst : first = #[] := Array.eq_empty_of_size_eq_zero hfs
      subst hfirst
      have hv := hE.eval (ok f (by simp [Call.operands]))
      rw [hf] at hv
      obtain ⟨xs, hxs, hxl⟩ : ∃ xs : Array Value, a.eval f = .func (.func g0) #[] xs ∧ VRL σ H xs.toList caps.toList := by
        generalize a.eval f = vf at hv
        cases hv with
        | flat _ hfl => simp [flatV] at hfl
        | func fn xs ys hs hvv =>
          refine ⟨xs, rfl, by simpa using hs, fun j u hu => ?_⟩
          have hj : j < caps.size := by have := lt_of_some' hu; simpa using this
          have hjx : j < xs.size := by rw [hs]; exact hj
          have := hvv j hjx hj
          rw [Array.getElem?_toList, Array.getElem?_eq_getElem hj] at hu
          cases hu
          exact ⟨_, by rw [Array.getElem?_toList, Array.getElem?_eq_getElem hjx], this⟩
      have hal := hE.evalL args.toList (fun x hx => ok x (by simp [Call.operands]; exact .inr (by simpa using hx)))
      have hvals : VRL σ H ((args.map a.eval) ++ xs).toList (args.toList.map (ev e) ++ caps.toList) := by
        rw [Array.toList_append, Array.toList_map]
        exact hal.append hxl
      obtain ⟨hcb, hc⟩ := hcall
      have hrun : (execOp a.eval ⟨dst, .call ⟨.value f, args, argTypes⟩, ty, pos, af, g⟩).run P w = .ok (.enter g0 (args.map a.eval ++ xs)) w := by
        unfold callable at hcb
        cases hfn : P.funcs[g0]? with
        | none => rw [hfn] at hcb; cases hcb
        | some fn =>
          rw [hfn] at hcb
          simp only [Bool.and_eq_true, beq_iff_eq] at hcb
          obtain ⟨hname, hbody⟩ := hcb
          have hbn : ¬ fn.body = none := by intro hx; rw [hx] at hbody; cases hbody
          have hname' : ¬ fn.name = "runtime.NumGoroutine" := by intro hx; rw [hx] at hname; simp at hname
          simp [execOp, resolve, hxs, Deferred.ofValue, invoke, callFunc, hfn, hname', hbn]
      unfold Oper.wp
      rw [hrun, Oper.upon_enter]
      refine (hc σ w _ hS hB hvals).mono fun ee w' ⟨v, hee, σ', H', d, F, S, V, hk⟩ => ?_
      subst hee
      exact hn _ _ _ _ _ F S V hk

end
end Go.BM
