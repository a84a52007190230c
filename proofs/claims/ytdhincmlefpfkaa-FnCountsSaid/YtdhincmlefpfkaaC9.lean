/- Regions, code and entry, told by lists: the rules of a walk. -/
import Derived.Test.YtdhincmlefpfkaaC8
import Derived.Deep.LoopGhost
set_option linter.unusedVariables false
set_option linter.unusedSimpArgs false
namespace Go.BM
open Go.RowKit

def isPop : Op → Bool
  | .binOp o t x y u => (nilOp (.binOp o t x y u)).isNone
  | .move _ | .assign _ | .pick .. | .unOp .. | .convert .. | .nilCheck _ | .fieldAddr .. | .field .. | .indexAddr .. | .index .. | .load .. | .slice .. | .extract .. | .build .. | .makeInterface .. | .makeFunc .. => true
  | .call c => (match c.callee with | .builtin .len | .builtin .min | .builtin .max => true | _ => false)
  | _ => false

def gateA (y : Option Bool) (want : Bool) (p q : Prop) : Prop := if y = some want then p else q

noncomputable def aop (P : Program) (B : Nat) (e : Env) (H : AH) (o : Oper) (k : Value → AH → Prop) : Prop :=
  if isPop o.op = true then optK (popV P e H o.type o.op) (fun v => k v H) else aopE P B e H o.op k

noncomputable def aops (P : Program) (B : Nat) (ops : Array Oper) (K : Env → AH → Prop) : List Oper → Env → AH → Prop
  | [], e, H => K e H
  | o :: l, e, H =>
    match o.guard with
    | none => aop P B e H o fun v H' => aops P B ops K l (put e o.dst v) H'
    | some (j, want) => gateA (yieldA ops e j) want (aop P B e H o fun v H' => aops P B ops K l (put e o.dst v) H') (aops P B ops K l (put e o.dst undef) H)

/-- The same for a region in which nothing is made or written: the heap stays. -/
def qopE (P : Program) (e : Env) (H : AH) (op : Op) (k : Value → Prop) : Prop :=
  match op with
  | .call c =>
    (match c.callee with
     | .value f =>
       (match ev e f with
        | .func (.func g) first caps => first.size = 0 ∧ ∃ d, pureV d = true ∧ ACalls P H.length g (c.args.toList.map (ev e) ++ caps.toList) H (fun v _ => v = d) ∧ k d
        | _ => False)
     | _ => False)
  | _ => False

noncomputable def qop (P : Program) (e : Env) (H : AH) (o : Oper) (k : Value → Prop) : Prop :=
  if isPop o.op = true then optK (popV P e H o.type o.op) k else qopE P e H o.op k

noncomputable def qops (P : Program) (ops : Array Oper) (H : AH) (K : Env → Prop) : List Oper → Env → Prop
  | [], e => K e
  | o :: l, e =>
    match o.guard with
    | none => qop P e H o fun v => qops P ops H K l (put e o.dst v)
    | some (j, want) => gateA (yieldA ops e j) want (qop P e H o fun v => qops P ops H K l (put e o.dst v)) (qops P ops H K l (put e o.dst undef))

def RelQ (n B : Nat) (σ : Sg) (H : AH) (w : World) (Q : Exit → Env → AH → Prop) : Exit → Act → World → Prop :=
  fun ex a' w' => ∃ σ' e' H', Fut B σ H w σ' H' w' ∧ Sim σ' H' w' ∧ ER n σ' H' a' e' ∧ Q ex e' H'

theorem RelQ.trans {n B : Nat} {σ σ1 : Sg} {H H1 : AH} {w w1 : World} {Q : Exit → Env → AH → Prop} (f : Fut B σ H w σ1 H1 w1) {ex : Exit} {a' : Act} {w' : World} (h : RelQ n B σ1 H1 w1 Q ex a' w') : RelQ n B σ H w Q ex a' w' := by
  obtain ⟨σ', e', H', h1, h2, h3, h4⟩ := h
  exact ⟨σ', e', H', f.trans h1, h2, h3, h4⟩

theorem RelQ.mono {n B : Nat} {σ : Sg} {H : AH} {w : World} {Q Q' : Exit → Env → AH → Prop} (hq : ∀ ex e H, Q ex e H → Q' ex e H) {ex : Exit} {a' : Act} {w' : World} (h : RelQ n B σ H w Q ex a' w') : RelQ n B σ H w Q' ex a' w' := by
  obtain ⟨σ', e', H', h1, h2, h3, h4⟩ := h
  exact ⟨σ', e', H', h1, h2, h3, hq _ _ _ h4⟩

def operOk (n : Nat) (o : Oper) : Bool := dstOk n o.dst && o.op.operands.all (opdOk n)

def codeOk (n : Nat) : Code → Bool
  | .region _ ops _ => ops.all (operOk n)
  | .seq a b => codeOk n a && codeOk n b
  | .cond c a b => opdOk n c && (codeOk n a && codeOk n b)
  | .block _ c => codeOk n c
  | .loop c => codeOk n c
  | .skip | .ret | .exit _ => true
  | _ => false

section
variable {P : Program} {B n : Nat} {σ σ0 : Sg} {H H0 : AH} {w w0 : World} {a : Act} {e : Env}

theorem aop_sound (hS : Sim σ H w) (hB : B ≤ H.length) (hE : ER n σ H a e) {o : Oper} (hok : o.op.operands.all (opdOk n) = true) {k : Value → AH → Prop} (h : aop P B e H o k)
    {next : Act → World → Prop} {Q : Exit → Act → World → Prop}
    (hn : ∀ v w' σ' H' d, Fut B σ H w σ' H' w' → Sim σ' H' w' → VR σ' H' v d → k d H' → next (a.put o.dst v) w') : o.wp P a w next Q := by
  unfold aop at h
  by_cases hp : isPop o.op = true
  · rw [if_pos hp] at h
    cases hv : popV P e H o.type o.op with
    | none => rw [hv] at h; exact h.elim
    | some d =>
      rw [hv] at h
      obtain ⟨v, hvr, hr⟩ := pop_sound hS hE hok hv
      unfold Oper.wp
      rw [hr w (Below.refl _ w), Oper.upon_value]
      exact hn v w σ H d (.refl _ _ _ _) hS hvr h
  · rw [if_neg hp] at h
    exact eff_sound hS hB hE hok h hn

theorem aops_sound {ops : Array Oper} (hops : ops.all (operOk n) = true) {Q : Exit → Env → AH → Prop} : ∀ (l : List Oper), (∀ o ∈ l, operOk n o = true) → ∀ (e : Env) (H : AH) (σ : Sg) (w : World) (a : Act),
    Fut B σ0 H0 w0 σ H w → Sim σ H w → B ≤ H.length → ER n σ H a e → aops P B ops (Q .normal) l e H → wpList P ops (RelQ n B σ0 H0 w0 Q) l a w
  | [], _, e, H, σ, w, a, f, hS, hB, hE, h => ⟨σ, e, H, f, hS, hE, h⟩
  | o :: l, hl, e, H, σ, w, a, f, hS, hB, hE, h => by
    have ho := hl o (by simp)
    unfold operOk at ho
    rw [Bool.and_eq_true] at ho
    have hdst : ops.all (fun o => dstOk n o.dst) = true := by
      rw [Array.all_eq_true] at hops ⊢
      intro i hi
      have := hops i hi
      unfold operOk at this
      rw [Bool.and_eq_true] at this
      exact this.1
    have step : aop P B e H o (fun v H' => aops P B ops (Q .normal) l (put e o.dst v) H') → o.wp P a w (wpList P ops (RelQ n B σ0 H0 w0 Q) l) (RelQ n B σ0 H0 w0 Q) := fun h' =>
      aop_sound hS hB hE ho.2 h' fun v w' σ' H' d F S V k =>
        aops_sound hops l (fun o ho => hl o (by simp [ho])) _ _ _ _ _ (f.trans F) S (Nat.le_trans hB F.len) ((hE.fut F).put ho.1 V) k
    have skip : aops P B ops (Q .normal) l (put e o.dst undef) H → wpList P ops (RelQ n B σ0 H0 w0 Q) l (a.put o.dst undef) w := fun h' =>
      aops_sound hops l (fun o ho => hl o (by simp [ho])) _ _ _ _ _ f hS hB (hE.put ho.1 (.flat _ rfl)) h'
    unfold wpList
    unfold aops at h
    cases hg : o.guard with
    | none =>
      rw [hg] at h
      rw [if_pos (by simp [Region.wanted, hg])]
      exact .inl (step h)
    | some jw =>
      obtain ⟨j, want⟩ := jw
      rw [hg] at h
      dsimp only at h
      unfold gateA at h
      have hy := yield_eq hE hdst j
      by_cases hc : yieldA ops e j = some want
      · rw [if_pos hc] at h
        rw [if_pos (by simp [Region.wanted, hg, hy, hc])]
        exact .inl (step h)
      · rw [if_neg hc] at h
        rw [if_neg (by simp [Region.wanted, hg, hy, hc])]
        exact skip h

theorem qop_sound (hS : Sim σ H w) (hE : ER n σ H a e) {o : Oper} (hok : o.op.operands.all (opdOk n) = true) {k : Value → Prop} (h : qop P e H o k) :
    ∃ v d, VR σ H v d ∧ k d ∧ ∀ w', Below w.heap.size w w' → o.quietAt P a (fun w'' => Below w.heap.size w w'') w' v := by
  unfold qop at h
  by_cases hp : isPop o.op = true
  · rw [if_pos hp] at h
    cases hv : popV P e H o.type o.op with
    | none => rw [hv] at h; exact h.elim
    | some d =>
      rw [hv] at h
      obtain ⟨v, hvr, hr⟩ := pop_sound hS hE hok hv
      refine ⟨v, d, hvr, h, fun w' hb => ?_⟩
      unfold Oper.quietAt
      rw [hr w' hb]
      exact ⟨rfl, rfl⟩
  · rw [if_neg hp] at h
    obtain ⟨dst, op, ty, pos, af, g⟩ := o
    dsimp only at h hok
    cases op <;> simp only [qopE] at h
    rename_i c
    obtain ⟨callee, args, argTypes⟩ := c
    dsimp only at h
    cases callee with
    | invoke r m => exact h.elim
    | builtin b => exact h.elim
    | value f =>
      dsimp only at h
      split at h
      case h_2 => exact h.elim
      rename_i g0 first caps hf
      obtain ⟨hfs, d, hd, hcall, hk⟩ := h
      refine ⟨d, d, .ofPure hd, hk, fun w' hb => ?_⟩
      have hS' := hS.below hb
      have hE' : ER n σ H a e := hE
      -- the call, in that world
      have hwp : Oper.wp P ⟨dst, .call ⟨.value f, args, argTypes⟩, ty, pos, af, g⟩ a w' (fun _ _ => True) (fun _ _ _ => True) :=
        eff_sound (B := H.length) hS' (Nat.le_refl _) hE' hok (k := fun _ _ => True) (by
          simp only [aopE, hf]
          exact ⟨hfs, hcall.mono fun _ _ _ => trivial⟩) (fun _ _ _ _ _ _ _ _ _ => trivial)
      have hfirst : first = #[] := Array.eq_empty_of_size_eq_zero hfs
      subst hfirst
      have ok : ∀ x ∈ (Op.call ⟨.value f, args, argTypes⟩).operands.toList, opdOk n x = true := fun x hx => Array.all_eq_true'.1 hok x (by simpa using hx)
      simp only [Op.operands] at ok
      have hv := hE.eval (ok f (by simp [Call.operands]))
      rw [hf] at hv
      obtain ⟨xs, hxs, hxl⟩ : ∃ xs : Array Value, a.eval f = .func (.func g0) #[] xs ∧ VRL σ H xs.toList caps.toList := by
        generalize a.eval f = vf at hv
        cases hv with
        | flat _ hfl => simp [flatV] at hfl
        | func fn xs ys hs hvv =>
          refine ⟨xs, rfl, by simpa using hs, fun j u hu => ?_⟩
          have hj : j < caps.size := by have := lt_of_some' hu; simpa using this
          have hjx : j < xs.size := by rw [hs]; exact hj
          have := hvv j hjx hj
          rw [Array.getElem?_toList, Array.getElem?_eq_getElem hj] at hu
          cases hu
          exact ⟨_, by rw [Array.getElem?_toList, Array.getElem?_eq_getElem hjx], this⟩
      have hal := hE.evalL args.toList (fun x hx => ok x (by simp [Call.operands]; exact .inr (by simpa using hx)))
      have hvals : VRL σ H ((args.map a.eval) ++ xs).toList (args.toList.map (ev e) ++ caps.toList) := by
        rw [Array.toList_append, Array.toList_map]
        exact hal.append hxl
      obtain ⟨hcb, hc⟩ := hcall
      have hrun : (execOp a.eval ⟨dst, .call ⟨.value f, args, argTypes⟩, ty, pos, af, g⟩).run P w' = .ok (.enter g0 (args.map a.eval ++ xs)) w' := by
        unfold callable at hcb
        cases hfn : P.funcs[g0]? with
        | none => rw [hfn] at hcb; cases hcb
        | some fn =>
          rw [hfn] at hcb
          simp only [Bool.and_eq_true, beq_iff_eq] at hcb
          obtain ⟨hname, hbody⟩ := hcb
          have hbn : ¬ fn.body = none := by intro hx; rw [hx] at hbody; cases hbody
          have hname' : ¬ fn.name = "runtime.NumGoroutine" := by intro hx; rw [hx] at hname; simp at hname
          simp [execOp, resolve, hxs, Deferred.ofValue, invoke, callFunc, hfn, hname', hbn]
      unfold Oper.quietAt
      rw [hrun]
      refine ⟨rfl, (hc σ w' _ hS' (Nat.le_refl _) hvals).mono fun ee w'' ⟨v, hee, σ', H', d', F, S, V, hk'⟩ => ?_⟩
      subst hee
      subst hk'
      exact ⟨by rw [V.pureE hd], hb.trans (F.forget.mono hb.size)⟩

theorem qops_sound {ops : Array Oper} (hops : ops.all (operOk n) = true) {K : Env → Prop} (hS : Sim σ H w) : ∀ (l : List Oper), (∀ o ∈ l, operOk n o = true) → ∀ (e : Env) (a : Act), ER n σ H a e → qops P ops H K l e →
    wpQuiet P ops (fun w'' => Below w.heap.size w w'') (fun a' => ∃ e', ER n σ H a' e' ∧ K e') l a
  | [], _, e, a, hE, h => ⟨e, hE, h⟩
  | o :: l, hl, e, a, hE, h => by
    have ho := hl o (by simp)
    unfold operOk at ho
    rw [Bool.and_eq_true] at ho
    have hdst : ops.all (fun o => dstOk n o.dst) = true := by
      rw [Array.all_eq_true] at hops ⊢
      intro i hi
      have := hops i hi
      unfold operOk at this
      rw [Bool.and_eq_true] at this
      exact this.1
    have step : qop P e H o (fun v => qops P ops H K l (put e o.dst v)) → o.quiet P a (fun w'' => Below w.heap.size w w'') (wpQuiet P ops (fun w'' => Below w.heap.size w w'') (fun a' => ∃ e', ER n σ H a' e' ∧ K e') l) := fun h' => by
      obtain ⟨v, d, hv, hk, hr⟩ := qop_sound hS hE ho.2 h'
      exact ⟨v, hr, qops_sound hops hS l (fun o ho => hl o (by simp [ho])) _ _ (hE.put ho.1 hv) hk⟩
    have skip : qops P ops H K l (put e o.dst undef) → wpQuiet P ops (fun w'' => Below w.heap.size w w'') (fun a' => ∃ e', ER n σ H a' e' ∧ K e') l (a.put o.dst undef) := fun h' =>
      qops_sound hops hS l (fun o ho => hl o (by simp [ho])) _ _ (hE.put ho.1 (.flat _ rfl)) h'
    unfold wpQuiet
    unfold qops at h
    cases hg : o.guard with
    | none =>
      rw [hg] at h
      rw [if_pos (by simp [Region.wanted, hg])]
      exact step h
    | some jw =>
      obtain ⟨j, want⟩ := jw
      rw [hg] at h
      dsimp only at h
      unfold gateA at h
      have hy := yield_eq hE hdst j
      by_cases hc : yieldA ops e j = some want
      · rw [if_pos hc] at h
        rw [if_pos (by simp [Region.wanted, hg, hy, hc])]
        exact step h
      · rw [if_neg hc] at h
        rw [if_neg (by simp [Region.wanted, hg, hy, hc])]
        exact skip h

end

/-- CODE, over a heap of lists: whatever memory tells that heap, the code comes to an exit of Q. -/
def AWp (P : Program) (n B : Nat) (c : Code) (Q : Exit → Env → AH → Prop) (e : Env) (H : AH) : Prop :=
  codeOk n c = true → ∀ (σ : Sg) (w : World) (a : Act), Sim σ H w → B ≤ H.length → ER n σ H a e → c.wp P (RelQ n B σ H w Q) a w

def thenQ (K : Env → AH → Prop) (Q : Exit → Env → AH → Prop) : Exit → Env → AH → Prop
  | .normal, e, H => K e H
  | ex, e, H => Q ex e H
def blockQ (id : Nat) (Q : Exit → Env → AH → Prop) : Exit → Env → AH → Prop
  | .exit id', e, H => if id' = id then Q .normal e H else Q (.exit id') e H
  | ex, e, H => Q ex e H
def Agree (ds : List Nat) (e e' : Env) : Prop := ∀ i, ds.contains i = false → e' i = e i
def loopQ (I : Nat → Env → AH → Prop) (m : Nat) (ds : List Nat) (e : Env) (Q : Exit → Env → AH → Prop) : Exit → Env → AH → Prop
  | .normal, e', H' => (∃ m', m' < m ∧ I m' e' H') ∧ Agree ds e e'
  | ex, e', H' => Q ex e' H'

theorem Agree.refl (ds : List Nat) (e : Env) : Agree ds e e := fun _ _ => rfl
theorem Agree.put {ds : List Nat} {e e' : Env} (h : Agree ds e e') {d : Nat} (hd : ds.contains d = true) (v : Value) : Agree ds e (put e' (some d) v) := fun i hi => by
  have hne : i ≠ d := fun x => by subst x; rw [hd] at hi; cases hi
  simp only [BM.put, if_neg hne]
  exact h i hi
theorem Agree.trans {ds : List Nat} {e e' e'' : Env} (h : Agree ds e e') (h' : Agree ds e' e'') : Agree ds e e'' := fun i hi => (h' i hi).trans (h i hi)

section
variable {P : Program} {B n : Nat} {Q : Exit → Env → AH → Prop} {e : Env} {H : AH}

theorem AWp.mono {c : Code} {Q' : Exit → Env → AH → Prop} (hq : ∀ ex e H, Q ex e H → Q' ex e H) (h : AWp P n B c Q e H) : AWp P n B c Q' e H :=
  fun hok σ w a hS hB hE => wp_mono (h hok σ w a hS hB hE) fun ex a' w' => RelQ.mono hq
theorem AWp.skip (h : Q .normal e H) : AWp P n B .skip Q e H := fun _ σ w a hS hB hE => wp_skip ⟨σ, e, H, .refl _ _ _ _, hS, hE, h⟩
theorem AWp.ret (h : Q .ret e H) : AWp P n B .ret Q e H := fun _ σ w a hS hB hE => wp_ret ⟨σ, e, H, .refl _ _ _ _, hS, hE, h⟩
theorem AWp.exit {id : Nat} (h : Q (.exit id) e H) : AWp P n B (.exit id) Q e H := fun _ σ w a hS hB hE => wp_exit ⟨σ, e, H, .refl _ _ _ _, hS, hE, h⟩
theorem AWp.seq {x y : Code} (h : AWp P n B x (thenQ (AWp P n B y Q) Q) e H) : AWp P n B (.seq x y) Q e H := fun hok σ w a hS hB hE => by
  simp only [codeOk, Bool.and_eq_true] at hok
  refine wp_seq (wp_mono (h hok.1 σ w a hS hB hE) fun ex a1 w1 hq => ?_)
  obtain ⟨σ1, e1, H1, f, hS1, hE1, hq1⟩ := hq
  cases ex with
  | normal => exact wp_mono (hq1 hok.2 σ1 w1 a1 hS1 (Nat.le_trans hB f.len) hE1) fun ex a' w' h' => RelQ.trans f h'
  | exit id => exact ⟨σ1, e1, H1, f, hS1, hE1, hq1⟩
  | goto l => exact ⟨σ1, e1, H1, f, hS1, hE1, hq1⟩
  | ret => exact ⟨σ1, e1, H1, f, hS1, hE1, hq1⟩
  | panic ch => exact ⟨σ1, e1, H1, f, hS1, hE1, hq1⟩
  | outgrown => exact ⟨σ1, e1, H1, f, hS1, hE1, hq1⟩
/-- The same, what follows behind a variable. -/
theorem AWp.seqK {x y : Code} (h : ∀ K : Env → AH → Prop, (∀ e H, AWp P n B y Q e H → K e H) → AWp P n B x (thenQ K Q) e H) : AWp P n B (.seq x y) Q e H := AWp.seq (h _ fun _ _ h => h)
theorem AWp.cond {c : Operand} {x y : Code} {t : Bool} (hc : ev e c = .bool t) (h1 : t = true → AWp P n B x Q e H) (h2 : t = false → AWp P n B y Q e H) : AWp P n B (.cond c x y) Q e H := fun hok σ w a hS hB hE => by
  simp only [codeOk, Bool.and_eq_true] at hok
  have hv := hE.eval hok.1
  rw [hc] at hv
  have := hv.bool
  cases t with
  | true => exact wp_cond this (h1 rfl hok.2.1 σ w a hS hB hE)
  | false => exact wp_cond this (h2 rfl hok.2.2 σ w a hS hB hE)
theorem AWp.block {id : Nat} {c : Code} (h : AWp P n B c (blockQ id Q) e H) : AWp P n B (.block id c) Q e H := fun hok σ w a hS hB hE => by
  refine wp_block (wp_mono (h hok σ w a hS hB hE) fun ex a1 w1 hq => ?_)
  obtain ⟨σ1, e1, H1, f, hS1, hE1, hq1⟩ := hq
  cases ex with
  | exit id' =>
    simp only [blockQ] at hq1
    simp only [Exit.inBlock]
    by_cases hid : id' = id
    · rw [if_pos hid] at hq1 ⊢; exact ⟨σ1, e1, H1, f, hS1, hE1, hq1⟩
    · rw [if_neg hid] at hq1 ⊢; exact ⟨σ1, e1, H1, f, hS1, hE1, hq1⟩
  | normal => exact ⟨σ1, e1, H1, f, hS1, hE1, hq1⟩
  | goto l => exact ⟨σ1, e1, H1, f, hS1, hE1, hq1⟩
  | ret => exact ⟨σ1, e1, H1, f, hS1, hE1, hq1⟩
  | panic ch => exact ⟨σ1, e1, H1, f, hS1, hE1, hq1⟩
  | outgrown => exact ⟨σ1, e1, H1, f, hS1, hE1, hq1⟩
/-- A LOOP: the relation bears a number that every round lowers; 'ds': the slots that a round may write. -/
theorem AWp.loop {c : Code} (ds : List Nat) (I : Nat → Env → AH → Prop) (m0 : Nat) (h0 : I m0 e H)
    (round : ∀ m e' H', Agree ds e e' → I m e' H' → AWp P n B c (loopQ I m ds e Q) e' H') : AWp P n B (.loop c) Q e H := fun hok σ w a hS hB hE => by
  refine wp_loop_ghost (fun m a' w' => ∃ σ' e' H', Fut B σ H w σ' H' w' ∧ Sim σ' H' w' ∧ ER n σ' H' a' e' ∧ I m e' H' ∧ Agree ds e e') m0 ⟨σ, e, H, .refl _ _ _ _, hS, hE, h0, .refl _ _⟩ ?_
  intro m a1 w1 ⟨σ1, e1, H1, f, hS1, hE1, hI, hA⟩
  refine wp_mono (round m e1 H1 hA hI hok σ1 w1 a1 hS1 (Nat.le_trans hB f.len) hE1) fun ex a2 w2 hq => ?_
  obtain ⟨σ2, e2, H2, f2, hS2, hE2, hq2⟩ := hq
  cases ex with
  | normal =>
    obtain ⟨⟨m', hm, hI'⟩, hA'⟩ := hq2
    exact ⟨m', hm, σ2, e2, H2, f.trans f2, hS2, hE2, hI', hA'⟩
  | exit id => exact ⟨σ2, e2, H2, f.trans f2, hS2, hE2, hq2⟩
  | goto l => exact ⟨σ2, e2, H2, f.trans f2, hS2, hE2, hq2⟩
  | ret => exact ⟨σ2, e2, H2, f.trans f2, hS2, hE2, hq2⟩
  | panic ch => exact ⟨σ2, e2, H2, f.trans f2, hS2, hE2, hq2⟩
  | outgrown => exact ⟨σ2, e2, H2, f.trans f2, hS2, hE2, hq2⟩
theorem AWp.region {id : Nat} {ops : Array Oper} (h : aops P B ops (Q .normal) ops.toList e H) : AWp P n B (.region id ops false) Q e H := fun hok σ w a hS hB hE => by
  simp only [codeOk] at hok
  exact wp_region_list (aops_sound hok ops.toList (fun o ho => Array.all_eq_true'.1 hok o (by simpa using ho)) e H σ w a (.refl _ _ _ _) hS hB hE h)
/-- A region that asks the tape for its order, and only reads. -/
theorem AWp.quiet {id : Nat} {ops : Array Oper} (hm : P.follows .mixedOrders = true) (hB : Region.lexB .any ops = true) (h : qops P ops H (fun e' => Q .normal e' H) ops.toList e) : AWp P n B (.region id ops true) Q e H := fun hok σ w a hS hB' hE => by
  simp only [codeOk] at hok
  refine wp_region_quiet (C := fun w'' => Below w.heap.size w w'') hm hB ⟨rfl, rfl, rfl, Nat.le_refl _, fun _ _ => rfl⟩ ?_
  have hq := qops_sound (P := P) hok (K := fun e' => Q .normal e' H) hS ops.toList (fun o ho => Array.all_eq_true'.1 hok o (by simpa using ho)) e a hE h
  -- the end of the walk
  have mono : ∀ (l : List Oper) (a : Act), wpQuiet P ops (fun w'' => Below w.heap.size w w'') (fun a' => ∃ e', ER n σ H a' e' ∧ Q .normal e' H) l a →
      wpQuiet P ops (fun w'' => Below w.heap.size w w'') (fun a' => ∀ w', Below w.heap.size w w' → RelQ n B σ H w Q .normal a' w') l a := by
    intro l
    induction l with
    | nil => intro a ⟨e', hE', hQ⟩ w' hb; exact ⟨σ, e', H, .of_below hb, hS.below hb, hE', hQ⟩
    | cons o l ih =>
      intro a hx
      unfold wpQuiet at hx ⊢
      split
      · rename_i hw; rw [if_pos hw] at hx; exact Oper.quiet_mono (fun a' => ih a') hx
      · rename_i hw; rw [if_neg hw] at hx; exact ih _ hx
  exact mono _ _ hq

end

/-! ### Results and entry -/
def res1 (P : Program) (e : Env) (H : AH) : ResultVar → Option Value
  | .tmp t => some (e t)
  | .cell x t => loadV P H t (e x)
def resL (P : Program) (e : Env) (H : AH) : List ResultVar → Option (List Value)
  | [] => some []
  | r :: rs => (res1 P e H r).bind fun v => (resL P e H rs).map fun vs => v :: vs
def resV (P : Program) (e : Env) (H : AH) (rs : List ResultVar) : Option Value :=
  match rs with
  | [r] => res1 P e H r
  | rs => (resL P e H rs).map fun vs => .tuple vs.toArray

def resOk (n : Nat) : ResultVar → Bool
  | .tmp t => decide (t < n)
  | .cell x _ => decide (x < n)

def bodyQ (P : Program) (rs : List ResultVar) (post : Value → AH → Prop) : Exit → Env → AH → Prop
  | .normal, e, H => optK (resV P e H rs) fun d => post d H
  | .ret, e, H => optK (resV P e H rs) fun d => post d H
  | _, _, _ => False

def env0 (args : List Value) : Env := fun i => args.getD i undef

section
variable {P : Program} {B n : Nat} {σ : Sg} {H : AH} {w : World} {a : Act} {e : Env}

def resRun (a : Act) (r : ResultVar) : Sem Value :=
  match r with
  | .tmp t => pure (a.tmps.getD t undef)
  | .cell x t => do loadVar t (← asAddr (a.tmps.getD x undef))

theorem results_eq (fn : Func) (a : Act) : results fn a.tmps = (do let vs ← fn.results.mapM (resRun a); pure (if h : vs.size = 1 then vs[0] else .tuple vs)) := rfl

theorem res1_sound (hS : Sim σ H w) (hE : ER n σ H a e) {r : ResultVar} (hr : resOk n r = true) {d : Value} (h : res1 P e H r = some d) :
    ∃ v, VR σ H v d ∧ (resRun a r).run P w = .ok v w := by
  cases r with
  | tmp t =>
    simp only [res1, Option.some.injEq] at h
    subst h
    exact ⟨_, hE.rel t (by simpa [resOk] using hr), rfl⟩
  | cell x t =>
    simp only [res1] at h
    have hv := hE.rel x (by simpa [resOk] using hr)
    obtain ⟨u, hu, hrun⟩ := load_sound (P := P) hS hv h
    refine ⟨u, hu, ?_⟩
    have := hrun w (Below.refl _ w)
    have hp : ∃ ad, a.tmps.getD x undef = .pointer (some ad) := by
      unfold loadV at h
      split at h
      case h_2 => cases h
      split at h
      · rename_i cs ha
        obtain ⟨b, o, us, hx, _⟩ := hv.aptr ha
        exact ⟨_, hx⟩
      · split at h
        case h_2 => cases h
        rename_i r off ver hx
        rw [hx] at hv
        cases hb : getB H r ver with
        | none => rw [hb] at h; cases h
        | some cs => exact ⟨_, hv.ptrI hb⟩
    obtain ⟨ad, hp⟩ := hp
    unfold resRun
    dsimp only
    rw [hp] at this ⊢
    simpa [Instr.loadAt, Instr.sureAddr, asAddr] using this

theorem resL_sound (hS : Sim σ H w) (hE : ER n σ H a e) : ∀ (rs : List ResultVar), rs.all (resOk n) = true → ∀ ds, resL P e H rs = some ds →
    ∃ vs, VRL σ H vs ds ∧ (rs.mapM (resRun a)).run P w = .ok vs w
  | [], _, ds, h => by
    simp only [resL, Option.some.injEq] at h
    subst h
    exact ⟨[], ⟨rfl, fun j u hu => by simp at hu⟩, rfl⟩
  | r :: rs, hok, ds, h => by
    simp only [List.all_cons, Bool.and_eq_true] at hok
    simp only [resL] at h
    cases h1 : res1 P e H r with
    | none => rw [h1] at h; cases h
    | some d =>
      rw [h1] at h
      simp only [Option.bind_some] at h
      obtain ⟨ds', h2, rfl⟩ := Option.map_eq_some_iff.1 h
      obtain ⟨v, hv, hr⟩ := res1_sound (P := P) hS hE hok.1 h1
      obtain ⟨vs, hvs, hrs⟩ := resL_sound hS hE rs hok.2 ds' h2
      refine ⟨v :: vs, ⟨by simp [hvs.1], fun j u hu => ?_⟩, ?_⟩
      · cases j with
        | zero => simp at hu; subst hu; exact ⟨v, rfl, hv⟩
        | succ j => simpa using hvs.2 j u (by simpa using hu)
      · simp only [List.mapM_cons, Sem.run_bind, hr, Result.andThen_ok, hrs, Sem.run_pure]

theorem resV_sound (hS : Sim σ H w) (hE : ER n σ H a e) {fn : Func} (hok : fn.results.toList.all (resOk n) = true) {d : Value} (h : resV P e H fn.results.toList = some d) :
    ∃ v, VR σ H v d ∧ (results fn a.tmps).run P w = .ok v w := by
  rw [results_eq]
  have hmap := fun ds hds => resL_sound (P := P) hS hE fn.results.toList hok ds hds
  unfold resV at h
  split at h
  · rename_i r hr
    rw [hr] at hmap
    obtain ⟨vs, hvs, hrun⟩ := hmap [d] (by simp [resL, h])
    have hl : vs.length = 1 := hvs.1
    obtain ⟨v, rfl⟩ : ∃ v, vs = [v] := List.length_eq_one_iff.1 hl
    obtain ⟨x, hx, hv⟩ := hvs.2 0 d rfl
    simp at hx
    subst hx
    refine ⟨v, hv, ?_⟩
    rw [Array.mapM_eq_mapM_toList, hr]
    simp only [Sem.run_bind, Sem.run_map]
    rw [hrun]
    simp
  · rename_i hne
    obtain ⟨ds, hds, rfl⟩ := Option.map_eq_some_iff.1 h
    obtain ⟨vs, hvs, hrun⟩ := hmap ds hds
    refine ⟨.tuple vs.toArray, .tuple _ _ (by simpa using hvs.1) fun i h1 h2 => ?_, ?_⟩
    · have := hvs.toArr.2 i h1 h2
      exact this
    · rw [Array.mapM_eq_mapM_toList]
      simp only [Sem.run_bind, Sem.run_map]
      rw [hrun]
      have hl : vs.toArray.size ≠ 1 := by
        intro hx
        have h1 : ds.length = 1 := by rw [← hvs.1]; simpa using hx
        have h2 : ∀ (rs : List ResultVar) ds, resL P e H rs = some ds → ds.length = rs.length := by
          intro rs
          induction rs with
          | nil => intro ds h; simp [resL] at h; subst h; rfl
          | cons r rs ih =>
            intro ds h
            simp only [resL] at h
            cases h1 : res1 P e H r with
            | none => rw [h1] at h; cases h
            | some d =>
              rw [h1] at h
              simp only [Option.bind_some] at h
              obtain ⟨ds', h2, rfl⟩ := Option.map_eq_some_iff.1 h
              simp [ih ds' h2]
        have h3 := h2 _ _ hds
        rw [h1] at h3
        obtain ⟨r, hr⟩ := List.length_eq_one_iff.1 h3.symm
        exact hne r hr
      simp only [Result.andThen_ok, Sem.run_pure]
      rw [dif_neg hl]

/-- THE ENTRY of a call. -/
theorem ACalls.intro {f : FuncId} {fn : Func} {c : Code} {args : List Value} {post : Value → AH → Prop} (hf : P.funcs[f]? = some fn) (hb : fn.body = some c) (hname : (fn.name == "runtime.NumGoroutine") = false)
    (hok : codeOk fn.ntmps c = true) (hres : fn.results.toList.all (resOk fn.ntmps) = true) (hlen : args.length ≤ fn.ntmps)
    (h : AWp P fn.ntmps B c (bodyQ P fn.results.toList post) (env0 args) H) : ACalls P B f args H post := by
  refine ⟨by simp [callable, hf, hname, hb], fun σ w vals hS hB hv => ?_⟩
  have hvl : vals.size = args.length := by simpa using hv.1
  have hE : ER fn.ntmps σ H { tmps := vals ++ Array.replicate (fn.ntmps - vals.size) undef, defers := [] } (env0 args) := by
    refine ⟨by simp; omega, fun i hi => ?_, rfl⟩
    simp only [env0]
    rcases Nat.lt_or_ge i args.length with h1 | h1
    · obtain ⟨x, hx, hvx⟩ := hv.2 i args[i] (List.getElem?_eq_getElem h1)
      have e1 : args.getD i undef = args[i] := by simp [List.getD, List.getElem?_eq_getElem h1]
      have e2 : (vals ++ Array.replicate (fn.ntmps - vals.size) undef).getD i undef = x := by
        rw [Array.getD_eq_getD_getElem?, Array.getElem?_append_left (by omega)]
        rw [Array.getElem?_toList] at hx
        rw [hx]
        rfl
      rw [e1, e2]
      exact hvx
    · have e1 : args.getD i undef = undef := by simp [List.getD, List.getElem?_eq_none h1]
      have e2 : (vals ++ Array.replicate (fn.ntmps - vals.size) undef).getD i undef = undef := by
        rw [Array.getD_eq_getD_getElem?, Array.getElem?_append_right (by omega), Array.getElem?_replicate]
        split <;> rfl
      rw [e1, e2]
      exact .flat _ rfl
  refine calls_of_wp hf hb (wp_mono (h hok σ w _ hS hB hE) fun ex a' w' hq => ?_)
  obtain ⟨σ', e', H', F, S, E, hq'⟩ := hq
  have done : optK (resV P e' H' fn.results.toList) (fun d => post d H') → a'.defers = [] ∧ ∃ v, (results fn a'.tmps).run P w' = .ok v w' ∧ (∃ v', Ending.returned v = .returned v' ∧ ∃ σ' H' d, Fut B σ H w σ' H' w' ∧ Sim σ' H' w' ∧ VR σ' H' v' d ∧ post d H') := fun hk => by
    cases hr : resV P e' H' fn.results.toList with
    | none => rw [hr] at hk; exact hk.elim
    | some d =>
      rw [hr] at hk
      obtain ⟨v, hv, hrun⟩ := resV_sound (P := P) S E hres hr
      exact ⟨E.defers, v, hrun, v, rfl, σ', H', d, F, S, hv, hk⟩
  cases ex with
  | normal => exact done hq'
  | ret => exact done hq'
  | exit id => exact hq'.elim
  | goto l => exact hq'.elim
  | panic ch => exact hq'.elim
  | outgrown => exact hq'.elim

end
end Go.BM
